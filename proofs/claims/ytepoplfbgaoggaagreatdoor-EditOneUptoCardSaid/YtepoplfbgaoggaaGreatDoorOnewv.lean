/-
  The pure evaluator, part v: regions that draw their order, with new variables in them.
-/
import Derived.Test.YtepoplfbgaoggaaGreatDoorOnewm
set_option linter.defProp false
set_option linter.unusedSimpArgs false
namespace Go.Pv
open Go Go.RowKit
open List (all_eq_true range range')
def GS (σ₀ σ:Nat->Option bL):Prop:=∀ k x,σ₀ k=some x->σ k=some x
section
variable {P : Program} {σ₀ σ : Nat -> Option bL}
def GS.bind (h:GS σ₀ σ) {k:Nat} {α:Type} {f:bL->Option α} {a:α} (hb:(σ₀ k).bind f=some a):(σ k).bind f=some a:=by
 rw[Option.bind_eq_some_iff] at hb ⊢;obtain ⟨x,h1,h2⟩:=hb;exact ⟨x,h _ _ h1,h2⟩
def ARU (h:GS σ₀ σ) {t:TypeId} {d r:D} (hr:BL P σ₀ t d=some r):BL P σ t d=some r:=by
 unfold BL at hr ⊢;split at hr
 ·split at hr
  ·exact hr
  ·split at hr
   ·rename_i rs hk
    try simp only[h.bind hk]
    exact hr
   ·cases hr
  ·cases hr
 ·cases hr
def PS (h:GS σ₀ σ) {t:TypeId} {d i r:D} (hr:dY P σ₀ t d i=some r):dY P σ t d i=some r:=by
 unfold dY at hr ⊢;split at hr
 ·rename_i kk i;by_cases hi:i<0
  ·simp_all
  ·rw[if_neg hi] at hr ⊢;split at hr
   ·split at hr
    ·exact hr
    ·split at hr
     ·rename_i hlt;rw[if_pos hlt];split at hr
      ·rename_i rs hk
       try simp only[h.bind hk]
       exact hr
      ·cases hr
     ·cases hr
    ·split at hr
     ·rename_i rs hk
      try simp only[h.bind hk]
      exact hr
     ·cases hr
    ·cases hr
   ·omega
 ·cases hr
def A1U (h:GS σ₀ σ) {t:TypeId} {d r:D} (hr:A1T P σ₀ t d=some r):A1T P σ t d=some r:=by
 unfold A1T at hr ⊢;split at hr
 ·omega
 ·split at hr
  ·exact hr
  ·split at hr
   ·rename_i hk;try simp only[h _ _ hk]
    exact hr
   ·rename_i hk;try simp only[h _ _ hk]
    exact hr
   ·cases hr
  ·exact hr
  ·cases hr
 ·split at hr
  ·split at hr
   ·rename_i hk;try simp only[h _ _ hk]
    exact hr
   ·cases hr
  ·exact hr
  ·cases hr
 ·omega
 ·cases hr
def ARW (h:GS σ₀ σ) {t:TypeId} {x i r:D} {ok:Bool} (hr:zH P σ₀ t x i ok=some r):zH P σ t x i ok=some r:=by
 unfold zH at hr ⊢;split at hr
 ·split at hr
  ·split at hr
   ·cases hr
   ·split at hr
    ·split at hr
     ·rename_i hm;try simp only[h _ _ hm]
      exact hr
     ·cases hr
    ·exact hr
    ·exact hr
    ·cases hr
  ·cases hr
 ·cases hr
def mapM_mono {α β:Type} {f g:α->Option β} (hfg:∀ a b,f a=some b->g a=some b):∀ {l:List α} {bs:List β},l.mapM f=some bs->l.mapM g=some bs
 | [],bs,h=>h
 | a::l,bs,h=>by
  simp only[List.mapM_cons,Option.bind_eq_bind,Option.bind_eq_some_iff,Option.pure_def] at h ⊢;obtain ⟨b,h1,bs',h2,h3⟩:=h;exact ⟨b,hfg _ _ h1,bs',mapM_mono hfg h2,h3⟩
def UD (h:GS σ₀ σ):∀ (n:Nat) (d:D) (t:T),j1 σ₀ n d=some t->j1 σ n d=some t:=by
 intro n
 induction n with
 | zero=>intro d t hd;cases d<;>simp[j1] at hd ⊢ <;> exact hd
 | succ n ih =>
  intro d t hd;have ihL:∀ {ds:List D} {ts:List T},ds.mapM (j1 σ₀ n)=some ts->ds.mapM (j1 σ n)=some ts:=λhm=>mapM_mono ih hm;have ihR:∀ {rs:List (List D)} {ts:List (List T)},rs.mapM (λ(r:List D)=>r.mapM (j1 σ₀ n))=some ts->rs.mapM (λ(r:List D)=>r.mapM (j1 σ n))=some ts:=λhm=>mapM_mono (λ_ _ hm=>mapM_mono ih hm) hm;cases d with
  | p t'=>exact hd
  | agg cs =>
   simp only[j1,aa] at hd ⊢
   grind
  | cB cs =>
   simp only[j1,aa] at hd ⊢
   grind
  | fn f a b =>
   simp only[j1] at hd ⊢
   grind
  | ptr k i j =>
   simp only[j1] at hd ⊢;split at hd
   ·rename_i rs hk;simp only[h.bind hk];split at hd
    ·split at hd
     ·rename_i hj;simp only[aa] at hd ⊢
      grind
     ·cases hd
    ·cases hd
   ·cases hd
  | own k =>
   simp only[j1] at hd ⊢;split at hd
   ·rename_i hk;simp only[h _ _ hk];exact hd
   ·rename_i hk;simp only[h _ _ hk];simp only[aa] at hd ⊢
    grind
   ·cases hd
  | bs k off len =>
   simp only[j1] at hd ⊢;split at hd
   ·rename_i hk;simp only[h _ _ hk];exact hd
   ·rename_i hk;simp only[h _ _ hk];split at hd
    ·rename_i hle;simp only[aa] at hd ⊢
     grind
    ·cases hd
   ·cases hd
  | map k =>
   simp only[j1] at hd ⊢;split at hd
   ·rename_i hk;simp only[h _ _ hk];simp only[aa] at hd ⊢;obtain ⟨ts,h1,h2⟩:=hd;refine ⟨ts,mapM_mono (λe b he=>?_) h1,h2⟩;simp only[aa] at he ⊢
    grind
   ·cases hd
  | _=>simp[j1] at hd
def JB (E:Env) (f:FuncId):Bool:=match E f with
 | some (.pure _)=>true
 | some (.new _)=>true
 | some (.AZ1 _)=>true
 | some (.ext _)=>true
 | _=>false
variable {E:Env}{n':Nat}
def APP (h:GS σ₀ σ) {n:Nat} {f:FuncId} {c:D} {args:List D} {r:D} (hc:c = .p (.fn f [] [])) (hf:JB E f=true) (hr:rY E σ₀ n c args=some r):rY E σ n' c args=some r:=by
 subst hc;unfold rY at hr ⊢;simp only[lC] at hr ⊢;unfold JB at hf;split at hf
 ·rename_i g hg;simp only[hg] at hr ⊢;split at hr
  ·exact hr
  ·split at hr
   ·rename_i ts hts;rw[mapM_mono (UD h 4) hts];exact hr
   ·cases hr
 ·rename_i g hg;simp only[hg] at hr ⊢;split at hr
  ·rename_i ts hts;rw[mapM_mono (UD h 4) hts];exact hr
  ·cases hr
 ·rename_i g hg;simp only[hg] at hr ⊢;split at hr
  ·rename_i ts hts;rw[mapM_mono (UD h 4) hts];exact hr
  ·cases hr
 ·simp_all
 ·cases hf
def FV (E:Env) (op:Op):Bool:=match op with
 | .load .. | .indexAddr .. | .lookup .. | .makeFunc .. | .nilCheck .. => true
 | .slice .. => E.marked 6000000000
 | .call c=>match c.callee with
  | .builtin .len=>true
  | .builtin .min=>true
  | .builtin .max=>true
  | .value (.func f)=>JB E f
  | _=>false
 | op=>mP E op
def AEQ {op:Op} (h:FV E op=true):fC E op=true:=by
 unfold FV at h;split at h<;>try rfl
 ·split at h
  ·rename_i hc;simp[fC,hc]
  ·rename_i hc;simp[fC,hc]
  ·rename_i hc;simp[fC,hc]
  ·rename_i f hc;simp only[fC,hc,Env.BBI];unfold JB at h
   grind
  ·cases h
 ·exact rA h
def KI {σ₀ σ:Nat->Option bL} (h:GS σ₀ σ) {k z:Nat} (hw:kF σ₀ k z=true):kF σ k z=true:=by
 unfold kF at hw ⊢;cases hk:σ₀ k with
 | none=>rw[hk] at hw;cases hw
 | some b=>rw[hk] at hw;rw[h k b hk];exact hw
def AM0 {P:Program} {σ₀ σ:Nat->Option bL} (h:GS σ₀ σ) {t:TypeId} {d:D} {lo hi mx:Option D} {r:D} (hr:lU P σ₀ t d lo hi mx=some r):lU P σ t d lo hi mx=some r:=by
 unfold lU at hr ⊢;cases he:pM P t with
 | none=>rw[he] at hr;exact hr
 | some e =>
  rw[he] at hr;dsimp only at hr ⊢;cases hz:tsz? P e with
  | none=>rw[hz] at hr;cases hr
  | some z =>
   rw[hz] at hr;cases d with
   | own k =>
    dsimp only at hr ⊢;cases hk:σ₀ k with
    | none=>rw[hk] at hr;cases mx<;>cases hr
    | some b =>
     rw[hk] at hr;rw[h k b hk];cases hw0:kF σ₀ k z with
     | true=>rw[KI h hw0];rw[hw0] at hr;exact hr
     | false =>
      rw[hw0] at hr;cases hw1:kF σ k z with
      | false=>exact hr
      | true =>
       split at hr
       ·split at hr
        ·split at hr
         ·simp_all
         ·cases hr
        ·cases hr
       ·cases hr
   | bs k off len =>
    dsimp only at hr ⊢;cases hw0:kF σ₀ k z with
    | true=>rw[KI h hw0];rw[hw0] at hr;exact hr
    | false =>
     rw[hw0] at hr;cases hw1:kF σ k z with
     | false=>exact hr
     | true =>
      split at hr
      ·cases hr
      ·split at hr
       ·split at hr
        ·simp_all
        ·cases hr
       ·cases hr
   | _=>exact hr
def BJ0 (h:GS σ₀ σ) {n:Nat} {s₀ s:Nat->D} {cg:Bool} {op:Op} {r:D} (hq:FV E op=true) (hr:qv P E n σ₀ s₀ s cg op=some r):qv P E n' σ s₀ s cg op=some r:=by
 unfold FV at hq;split at hq
 ·exact ARU h hr
 ·exact PS h hr
 ·exact ARW h hr
 ·rename_i f a b;cases f<;>exact hr
 ·exact hr
 ·exact AM0 h hr
 ·simp only[qv] at hr ⊢;split at hq
  ·rename_i hc;simp only[hc] at hr ⊢;split at hr
   ·exact A1U h hr
   ·cases hr
  ·simp_all
  ·simp_all
  ·rename_i f hc;simp only[hc] at hr ⊢;exact APP h rfl hq hr
  ·cases hq
 ·rw[AER hq n' n σ σ₀];exact hr
end
def zI (base:Nat) (σ:Nat->Option bL):Nat->Option bL:=λk=>match Nat.ble base k with
 | true=>none
 | false=>σ k
variable {base:Nat}{σ:Nat->Option bL}
def I7 {k:Nat} (h:k<base):zI base σ k=σ k:=by
 unfold zI;rw[show Nat.ble base k=false from Bool.eq_false_iff.2 λh'=>by have:=Nat.le_of_ble_eq_true h';omega]
def I6 {k:Nat} (h:base<=k):zI base σ k=none:=by
 unfold zI;rw[Nat.ble_eq_true_of_le h]
variable {σ':Nat->Option bL}
def A1X (h:∀ k x,k<base->σ' k=some x->σ k=some x):GS (zI base σ') σ:=λk x hk=>by
 rcases Nat.lt_or_ge k base with hl|hg
 ·rw[I7 hl] at hk;exact h k x hl hk
 ·rw[I6 hg] at hk;cases hk
def AR0 (h:∀ k x,k<base->σ' k=some x->σ k=some x):GS (zI base σ') (zI base σ):=λk x hk=>by
 rcases Nat.lt_or_ge k base with hl|hg
 ·rw[I7 hl] at hk ⊢;exact h k x hl hk
 ·rw[I6 hg] at hk;cases hk
def BBY (h:∀ k,k<base->σ' k=σ k):zI base σ'=zI base σ:=funext λk=>by
 rcases Nat.lt_or_ge k base with hl|hg
 ·rw[I7 hl,I7 hl,h k hl]
 ·rw[I6 hg,I6 hg]
inductive KD where|free|quiet|ask|alloc|new|app|mk|old|BM
def BOR (ops:Array Oper) (x:Operand):Bool:=match x with
 | .tmp t=>ops.toList.any λo=>match o.op with
  | .alloc _=>o.dst == some t
  | _=>false
 | _=>false
def BI0 (ops:Array Oper):Bool:=ops.toList.all λo=>match o.op with
 | .alloc _=>false
 | _=>true
def b9 (M:Bool) (E:Env) (ops:Array Oper) (o:Oper):KD:=match mP E o.op,FV E o.op,fC E o.op with
 | true,_,_=>.free
 | _,true,_=>.quiet
 | _,_,true=>.ask
 | _,_,_=>match o.op with
  | .alloc _=>match o.guard with
   | none=>.alloc
   | some _=>.BM
  | .store _ a _=>match o.guard with
   | none=>match BOR ops a||(M&&BI0 ops) with
    | true=>.new
    | false=>.old
   | some _=>.BM
  | .call c=>match c.callee with
   | .builtin .append=>.app
   | .value (.func f)=>match E f with
    | some (.fresh _)=>.mk
    | some (.dup _ _)=>.mk
    | some (.part _ _)=>.mk
    | _=>.BM
   | _=>.BM
  | _=>.BM
def BOJ (x:Option Fn):Prop:=(∃ g,x=some (.fresh g))\/(∃ z y,x=some (.dup z y))\/∃ c g,x=some (.part c g)
def gR (M:Bool) (P:Program) (E:Env) (ops:Array Oper) (base:Nat) (j:Nat) (o:Oper) (s:Nat->D) (σ:Nat->Option bL) (n:Nat):Option (D×(Nat->Option bL)×Nat) :=
 match b9 M E ops o with
 | .free=>(iU P E ops n σ s o).map λd=>(d,σ,n)
 | .quiet=>(iU P E ops n (zI base σ) s o).map λd=>(d,σ,n)
 | .alloc=>match o.op with
  | .alloc e=>((tz? P e).bind λz=>uW (z.cells.toList.map λv=>.p (.v v))).map λb=>(.ptr (base+j) 0 0,cJ σ (base+j) (some b),n)
  | _=>none
 | .new=>match o.op with
  | .store t a v=>match ev (cN true s) a with
   | .ptr k x y=>match decide (base<=k)&&(M||decide (k<base+ops.size)) with
    | true=>(lV P σ t (.ptr k x y) (ev (cN true s) v)).map λσ'=>(.p (.v undef),σ',n)
    | false=>none
   | _=>none
  | _=>none
 | .ask=>(iU P E ops n σ s o).map λd=>(d,σ,n)
 | .app=>match iY ops s o with
  | some true=>match o.op with
   | .call c=>match c.args.toList,c.argTypes.toList with
    | [x,y],[t,u]=>(kC P σ n t u (ev (cN true s) x) (ev (cN true s) y)).map λr=>(r.1,r.2,n+1)
    | _,_=>none
   | _=>none
  | some false=>some (.p (.v undef),σ,n)
  | none=>none
 | .mk=>match iY ops s o with
  | some true=>nv P E σ (cN true s) n o.op
  | some false=>some (.p (.v undef),σ,n)
  | none=>none
 | .old=>match o.op with
  | .store t a v=>(lV P σ t (ev (cN true s) a) (ev (cN true s) v)).map λσ'=>(.p (.v undef),σ',n)
  | _=>none
 | .BM=>match iY ops s o with
  | some true=>match nv P E σ (cN true s) n o.op with
   | some r=>match Nat.ble n r.2.2 with
    | true=>some r
    | false=>none
   | none=>none
  | some false=>some (.p (.v undef),σ,n)
  | none=>none
def iV (M:Bool) (P:Program) (E:Env) (nt:Nat) (ops:Array Oper) (base:Nat) (j:Nat) (o:Oper) (st:St):Option St :=
 (gR M P E ops base j o st.s st.σ st.n).bind λx=>wQ nt st o.dst x.1 x.2.1 x.2.2
def evD (M:Bool) (P:Program) (E:Env) (nt:Nat) (ops:Array Oper) (base:Nat):List Nat->St->Option St
 | [],st=>some st
 | k::r,st=>match ops[k]? with
  | some o=>(iV M P E nt ops base k o st).bind (evD M P E nt ops base r)
  | none=>none
section
variable {M : Bool} {cx : Cx} {nt : Nat} {E : Env} {ops : Array Oper} {base : Nat}
def ML {o:Oper} (h:b9 M E ops o = .free):mP E o.op=true:=by
 unfold b9 at h
 grind
def yF {o:Oper} (h:b9 M E ops o = .quiet):FV E o.op=true:=by
 unfold b9 at h
 grind
def sL {o:Oper} (h:b9 M E ops o = .alloc):o.guard=none/\∃ e,o.op = .alloc e:=by
 unfold b9 at h
 grind
def U6 {o:Oper} (h:b9 M E ops o = .new\/b9 M E ops o = .old):o.guard=none/\∃ t a v,o.op = .store t a v:=by
 unfold b9 at h
 grind
def AVB {o:Oper} (h:b9 M E ops o = .mk):∃ c f,o.op = .call c/\c.callee = .value (.func f)/\BOJ (E f):=by
 unfold b9 at h;unfold BOJ
 grind
def BIV {o:Oper} (h:b9 M E ops o = .mk):fC E o.op=false:=by
 unfold b9 at h
 grind
def BBJ {o:Oper} (h:b9 M E ops o = .ask):fC E o.op=true:=by
 unfold b9 at h
 grind
def ALC {o:Oper} (h:b9 M E ops o = .app):∃ c,o.op = .call c/\c.callee = .builtin .append:=by
 unfold b9 at h
 grind
variable {P:Program}
def TM {j:Nat} {o:Oper} {s s':Nat->D} {n:Nat} (h:∀ t∈o.looksAt ops,s t=s' t):gR M P E ops base j o s σ n=gR M P E ops base j o s' σ n:=by
 unfold gR;have hs:∀ x∈o.op.operands,ev (cN true s) x=ev (cN true s') x:=λx hx=>HA λt ht=>by
  subst ht;simp only[cN];rw[h t (by simp[Oper.looksAt];exact .inl ⟨.tmp t,by simpa using hx,rfl⟩)]
 cases b9 M E ops o with
 | free=>simp only;rw[kV h]
 | quiet=>simp only;rw[kV h]
 | alloc=>rfl
 | new =>
  cases ho:o.op<;>try rfl
  rename_i t a v;rw[ho] at hs;simp only;rw[hs a (by simp[Op.operands]),hs v (by simp[Op.operands])]
 | ask=>simp only;rw[kV h]
 | app =>
  rw[nY h];cases iY ops s' o with
  | none=>rfl
  | some b =>
   cases b with
   | false=>rfl
   | true =>
    cases ho:o.op<;>try rfl
    rw[ho] at hs;simp only;split
    ·rename_i x y t u ha hat;rw[hs x (by simp[Op.operands,Call.operands,<-Array.mem_toList_iff,ha]),hs y (by simp[Op.operands,Call.operands,<-Array.mem_toList_iff,ha])]
    ·rfl
 | old =>
  cases ho:o.op<;>try rfl
  rename_i t a v;rw[ho] at hs;simp only;rw[hs a (by simp[Op.operands]),hs v (by simp[Op.operands])]
 | mk =>
  rw[nY h,VJ hs]
 | BM =>
  rw[nY h,VJ hs]
def AT5 {t:TypeId} {k x y:Nat} {v:D} (h:lV P σ t (.ptr k x y) v=some σ'):∃ b,σ'=cJ σ k (some b):=by
 unfold lV at h;simp only at h;split at h
 ·split at h
  ·split at h
   ·cases h;exact ⟨_,rfl⟩
   ·cases h
  ·cases h
 ·split at h
  ·split at h
   ·cases h;exact ⟨_,rfl⟩
   ·cases h
  ·cases h
 ·cases h
def rG {j:Nat} {o:Oper} {s:Nat->D} {n:Nat} (h:b9 M E ops o = .free):gR M P E ops base j o s σ n=(iU P E ops n σ s o).map λd=>(d,σ,n):=by
 unfold gR;rw[h]
def mN {j:Nat} {o:Oper} {s:Nat->D} {n:Nat} (h:b9 M E ops o = .quiet):gR M P E ops base j o s σ n=(iU P E ops n (zI base σ) s o).map λd=>(d,σ,n):=by
 unfold gR;rw[h]
def G4 {j:Nat} {o:Oper} {s:Nat->D} {n:Nat} (h:b9 M E ops o = .ask):gR M P E ops base j o s σ n=(iU P E ops n σ s o).map λd=>(d,σ,n):=by
 unfold gR;rw[h]
variable {n':Nat}
def ZJ {c:Call} {f:FuncId} (hc:c.callee = .value (.func f)) (hg:BOJ (E f)) {s:Nat->D} {n:Nat} {d:D} (h:nv P E σ s n (.call c)=some (d,σ',n')) :
  n'=n+1/\(∀ k,k≠n->σ' k=σ k):=by
 simp only[nv,hc,AIE] at h;split at h
 case h_2 =>
  rcases hg with ⟨g,hg⟩|⟨z,y,hg⟩|⟨z,y,hg⟩<;>simp[rY,ev,lC,hg] at h
 rename_i r hcf;cases h;replace h:=hcf;clear hcf;unfold u9 at h;rcases hg with ⟨g,hg⟩|⟨z,y,hg⟩|⟨z,y,hg⟩
 ·simp only[ev,lC,hg] at h;split at h
  ·split at h
   ·split at h
    ·cases h;exact ⟨rfl,λ_ _=>rfl⟩
    ·cases h;exact ⟨rfl,λk hk=>bU _ _ hk⟩
   ·cases h
  ·split at h
   ·split at h
    ·split at h
     ·cases h;exact ⟨rfl,λk hk=>bU _ _ hk⟩
     ·cases h
    ·cases h
   ·cases h
 ·simp only[ev,lC,hg,U0] at h;unfold HK at h;split at h
  ·split at h
   ·split at h
    ·cases h;exact ⟨rfl,λk hk=>bU _ _ hk⟩
    ·cases h
   ·cases h
  ·split at h
   ·split at h
    ·cases h;exact ⟨rfl,λk hk=>bU _ _ hk⟩
    ·cases h
   ·cases h
  ·cases h
 ·simp only[ev,lC,hg] at h;split at h
  ·split at h
   ·split at h
    ·cases h;exact ⟨rfl,λk hk=>bU _ _ hk⟩
    ·cases h
   ·cases h
  ·cases h
def G5 {j:Nat} {o:Oper} {s:Nat->D} {n:Nat} {d:D} (hb:base<=n) (hk:b9 M E ops o = .quiet\/b9 M E ops o = .alloc\/b9 M E ops o = .new\/b9 M E ops o = .mk) (h:gR M P E ops base j o s σ n=some (d,σ',n')):∀ k,k<base->σ' k=σ k:=by
 unfold gR at h;rcases hk with hk|hk|hk|hk
 ·rw[hk] at h;simp only[aa,Prod.mk.injEq] at h;obtain ⟨_,_,_,rfl,rfl⟩:=h;exact λ_ _=>rfl
 ·rw[hk] at h;simp only at h;split at h
  ·simp only[aa,Prod.mk.injEq] at h;obtain ⟨_,_,_,rfl,rfl⟩:=h;exact λk hk=>bU _ _ (by omega)
  ·cases h
 ·rw[hk] at h;simp only at h;split at h
  ·split at h
   ·split at h
    ·rename_i hb;have hb:=of_decide_eq_true (ac _ _ ▸ hb).1;simp only[aa,Prod.mk.injEq] at h;obtain ⟨σ'',h1,_,rfl,rfl⟩:=h;obtain ⟨b,rfl⟩:=AT5 h1;exact λk hk=>bU _ _ (by omega)
    ·cases h
   ·cases h
  ·cases h
 ·obtain ⟨c,f,ho,hc,hg⟩:=AVB hk;rw[hk] at h;simp only at h;split at h
  ·rw[ho] at h;obtain ⟨_,h2⟩:=ZJ hc hg h;exact λk hk=>h2 k (by omega)
  ·cases h;exact λ_ _=>rfl
  ·cases h
def AH6 {n:Nat} {t u:TypeId} {s x d:D} (hn:base<=n) (h:kC P σ n t u s x=some (d,σ')):∀ k b,k<base->σ' k=some b->σ k=some b:=by
 have key:∀ (k₀:Nat) (b0:Option bL),∀ k b,k<base->cJ (cJ σ k₀ none) n b0 k=some b->σ k=some b:=λk₀ b0 k b hk hb=>by
  rw[bU _ _ (by omega)] at hb;by_cases e:k=k₀
  ·simp_all
  ·rw[bU _ _ e] at hb;exact hb
 have key1:∀ (b0:Option bL),∀ k b,k<base->cJ σ n b0 k=some b->σ k=some b:=λb0 k b hk hb=>by
  rw[bU _ _ (by omega)] at hb;exact hb
 unfold kC at h;split at h
 ·split at h
  ·split at h
   ·split at h
    ·split at h
     ·split at h
      ·split at h
       ·cases h;exact key1 _
       ·cases h
      ·split at h
       ·simp_all
       ·split at h
        ·cases h;exact key1 _
        ·cases h
      ·cases h
     ·split at h
      ·split at h
       ·cases h;exact key _ _
       ·cases h
      ·cases h
     ·cases h
    ·cases h
   ·cases h
  ·cases h
 ·unfold GY at h;split at h
  ·split at h
   ·split at h
    ·split at h
     ·split at h
      ·split at h
       ·cases h;exact key _ _
       ·cases h
      ·cases h
     ·cases h
    ·cases h
   ·cases h
  ·cases h
def A8F {j:Nat} {o:Oper} {s:Nat->D} {n:Nat} {d:D} (hk:b9 M E ops o = .app) (hn:base<=n) (h:gR M P E ops base j o s σ n=some (d,σ',n')):∀ k b,k<base->σ' k=some b->σ k=some b:=by
 unfold gR at h;rw[hk] at h;simp only at h;split at h
 ·split at h
  ·split at h
   ·simp only[aa,Prod.mk.injEq] at h;obtain ⟨⟨d',σ''⟩,h1,_,rfl,rfl⟩:=h;exact AH6 hn h1
   ·cases h
  ·cases h
 ·simp_all
 ·cases h
def BMV {j:Nat} {o:Oper} {s:Nat->D} {n:Nat} {d:D} (h:gR M P E ops base j o s σ n=some (d,σ',n')):n<=n':=by
 unfold gR at h;cases hk:b9 M E ops o with
 | free=>rw[hk] at h;simp only[aa,Prod.mk.injEq] at h;obtain ⟨_,_,_,_,rfl⟩:=h;exact al _
 | quiet=>rw[hk] at h;simp only[aa,Prod.mk.injEq] at h;obtain ⟨_,_,_,_,rfl⟩:=h;exact al _
 | ask=>rw[hk] at h;simp only[aa,Prod.mk.injEq] at h;obtain ⟨_,_,_,_,rfl⟩:=h;exact al _
 | alloc =>
  rw[hk] at h;simp only at h;split at h
  ·simp only[aa,Prod.mk.injEq] at h;obtain ⟨_,_,_,_,rfl⟩:=h;exact al _
  ·cases h
 | new =>
  rw[hk] at h;simp only at h;split at h
  ·split at h
   ·split at h
    ·simp only[aa,Prod.mk.injEq] at h;obtain ⟨_,_,_,_,rfl⟩:=h;exact al _
    ·cases h
   ·cases h
  ·cases h
 | app =>
  rw[hk] at h;simp only at h;split at h
  ·split at h
   ·split at h
    ·simp only[aa,Prod.mk.injEq] at h;obtain ⟨_,_,_,_,rfl⟩:=h;exact Nat.le_succ _
    ·cases h
   ·cases h
  ·simp_all
  ·cases h
 | mk =>
  obtain ⟨c,f,ho,hc,hg⟩:=AVB hk;rw[hk] at h;simp only at h;split at h
  ·rw[ho] at h;obtain ⟨h1,_⟩:=ZJ hc hg h;omega
  ·simp_all
  ·cases h
 | old =>
  rw[hk] at h;simp only at h;split at h
  ·simp only[aa,Prod.mk.injEq] at h;obtain ⟨_,_,_,_,rfl⟩:=h;exact al _
  ·cases h
 | BM =>
  rw[hk] at h;simp only at h;split at h
  ·split at h
   ·split at h
    ·simp_all
    ·cases h
   ·cases h
  ·simp_all
  ·cases h
variable {σ₀:Nat->Option bL}
def FU (h:GS σ₀ σ) {n:Nat} {s:Nat->D} {o:Oper} {d:D} (hq:FV E o.op=true) (hr:iU P E ops n σ₀ s o=some d):iU P E ops n' σ s o=some d:=by
 unfold iU at hr ⊢;split at hr
 ·cases hr
 ·omega
 ·exact BJ0 h hq hr
def VY {n:Nat} {s:Nat->D} {o:Oper} (hf:mP E o.op=true):iU P E ops n σ s o=iU P E ops n' σ₀ s o:=by
 unfold iU;cases iY ops s o with
 | none=>rfl
 | some c=>cases c<;>simp only[AER hf n n' σ σ₀]
variable {st st':St}{K:Act->World->Prop}{Q:Exit->Act->World->Prop}
def AM3 {j:Nat} (hE:bB cx.P E) {ρ:Nat->Option Loc} {a:Act} {w:World} (h:Rel cx nt ρ st a w) {o:Oper} (hjs:j<ops.size) (hjn:base+ops.size<=st.n) (hfree:b9 M E ops o = .alloc->ρ (base+j)=none) (hs:iV M cx.P E nt ops base j o st=some st')
  (hK:∀ ρ' a' w',Rel cx nt ρ' st' a' w'->(b9 M E ops o≠.BM->b9 M E ops o≠.mk->∀ i,i<base+ops.size->i≠base+j->ρ' i=ρ i)->K a' w'):if Region.wanted o (yielded ops a.tmps) then o.wp cx.P a w K Q else K (a.put o.dst undef) w:=by
 unfold iV at hs;simp only[Option.bind_eq_some_iff] at hs;obtain ⟨⟨d,σ',n'⟩,he,hp⟩:=hs;have quiet:∀ d',iU cx.P E ops st.n st.σ st.s o=some d'->(d',st.σ,st.n)=(d,σ',n')->if Region.wanted o (yielded ops a.tmps) then o.wp cx.P a w K Q else K (a.put o.dst undef) w:=by
  intro d' hq he;cases he;unfold iU at hq;split at hq
  ·cases hq
  ·rename_i hc;rw[fB h hc];cases hq;exact hK ρ _ w (fR h hp h.inv (bZ.refl _ _ _ _) (.p _ _ (.v _))) λ_ _ _ _ _=>rfl
  ·rename_i hc;rw[fB h hc];refine BLP hE h.inv h.yB h.ev0 (h.evS) hq λv w' hb hv=>hK ρ _ w' ?_ λ_ _ _ _ _=>rfl;exact fR h hp (h.inv.grow hb (al _)) (bZ.pV hb) hv
 have store:∀ {t:TypeId} {x y:Operand} {σ'':Nat->Option bL},o.guard=none->o.op = .store t x y->lV cx.P st.σ t (ev (cN true st.s) x) (ev (cN true st.s) y)=some σ''->((.p (.v undef):D),σ'',st.n)=(d,σ',n')->if Region.wanted o (yielded ops a.tmps) then o.wp cx.P a w K Q else K (a.put o.dst undef) w:=by
  intro t x y σ'' hg ho hst he;cases he;have hw:Region.wanted o (yielded ops a.tmps)=true:=by simp[Region.wanted,hg]
  rw[hw];obtain ⟨w',h1,h2,h3⟩:=AA4 h.inv (h.evS x) (h.evS y) hst;unfold Oper.wp;have hx:(execOp a.eval o).run cx.P w = .ok .skip w':=by
   simp only[execOp,ho,Sem.run_bind,h1,Result.andThen_ok,Sem.run_pure]
  rw[hx];exact hK ρ _ w' (fR h hp h2 h3 (v:=undef) (.p _ _ (.v _))) λ_ _ _ _ _=>rfl
 cases hk:b9 M E ops o with
 | free =>
  rw[rG hk] at he;simp only[aa] at he;obtain ⟨d',hq,he⟩:=he;simp_all
 | quiet =>
  rw[mN hk] at he;simp only[aa] at he;obtain ⟨d',hq,he⟩:=he;exact quiet d' (FU (A1X λ_ _ _ h=>h) (yF hk) hq) he
 | alloc =>
  obtain ⟨hg,e,ho⟩:=sL hk;unfold gR at he;rw[hk] at he;simp only[ho] at he;have hw:Region.wanted o (yielded ops a.tmps)=true:=by simp[Region.wanted,hg]
  rw[hw];simp only[aa,Option.bind_eq_some_iff,Prod.mk.injEq] at he;obtain ⟨b,⟨z,hz,hb⟩,rfl,rfl,rfl⟩:=he;obtain ⟨ρ',h0,h1,h2,h3,h4⟩:=PB h.inv (n':=st.n) (k:=base+j) (al _) (by omega) (λi l' hi e=>by subst e;rw[hfree hk] at hi;cases hi) (dO.vs (R:=Rd w (bY cx ρ st.σ) ρ) (g:=λv=>.p (.v v)) (λv=>.p _ _ (.v v)) z.cells) hb e;unfold Oper.wp;have hx:(execOp a.eval o).run cx.P w = .ok (.value (.pointer (some ⟨w.heap.size,0,none⟩))) (w.alloc (.cells z.cells e)):=by
   simp only[execOp,ho,Instr.alloc,Sem.run_bind,run_zero? w hz,Result.andThen_ok,newVar,h1,Sem.run_pure]
  rw[hx];exact hK ρ' _ _ (fR h hp h2 h3 h4) λ_ _ i _ hi=>h0 i hi
 | new =>
  obtain ⟨hg,t,x,y,ho⟩:=U6 (.inl hk);unfold gR at he;rw[hk] at he;simp only[ho] at he;split at he
  ·split at he
   ·simp only[aa] at he;obtain ⟨σ'',hst,he⟩:=he;simp_all
   ·cases he
  ·cases he
 | old =>
  obtain ⟨hg,t,x,y,ho⟩:=U6 (.inr hk);unfold gR at he;rw[hk] at he;simp only[ho,aa] at he;obtain ⟨σ'',hst,he⟩:=he;simp_all
 | ask =>
  rw[G4 hk] at he;simp only[aa] at he;obtain ⟨d',hq,he⟩:=he;simp_all
 | app =>
  obtain ⟨c,ho,hc⟩:=ALC hk;unfold gR at he;rw[hk] at he;simp only at he;split at he
  ·rename_i hg;rw[fB h hg];simp only[ho] at he;split at he
   ·rename_i x y t u ha hat;simp only[aa] at he;obtain ⟨⟨d',σ''⟩,h5,he⟩:=he;cases he;have ex:c.args = #[x,y]:=by rw[<-Array.toList_inj];exact ha
    have et:c.argTypes = #[t,u]:=by rw[<-Array.toList_inj];exact hat
    obtain ⟨v,w',ρ',h0,h1,h2,h3,h4⟩:=OH (ty:=o.type) h.inv (al _) (h.evS x) (h.evS y) h5;have hx:(execOp a.eval o).run cx.P w = .ok (.value v) w':=by
     simp[execOp,ho,resolve,hc,ex,et,invoke,builtin,h1]
    unfold Oper.wp;rw[hx];exact hK ρ' _ w' (fR h hp h2 h3 h4) λ_ _ i hi _=>h0 i (by omega)
   ·cases he
  ·rename_i hg;rw[fB h hg];cases he;exact hK ρ _ w (fR h hp h.inv (bZ.refl _ _ _ _) (.p _ _ (.v _))) λ_ _ _ _ _=>rfl
  ·cases he
 | mk =>
  unfold gR at he;rw[hk] at he;simp only at he;split at he
  ·rename_i hg;rw[fB h hg];refine BCA hE h.inv h.yB h.evS he λv w' ρ' hi hkp hv=>hK ρ' _ w' (fR h hp hi hkp hv) λ_ hn=>absurd hk hn
  ·rename_i hg;rw[fB h hg];cases he;exact hK ρ _ w (fR h hp h.inv (bZ.refl _ _ _ _) (.p _ _ (.v _))) λ_ _ _ _ _=>rfl
  ·cases he
 | BM =>
  unfold gR at he;rw[hk] at he;simp only at he;split at he
  ·rename_i hg;rw[fB h hg];split at he
   ·rename_i r hr;split at he
    ·cases he;refine BCA hE h.inv h.yB h.evS hr λv w' ρ' hi hkp hv=>hK ρ' _ w' (fR h hp hi hkp hv) λhn _=>absurd hk hn
    ·cases he
   ·cases he
  ·rename_i hg;rw[fB h hg];cases he;exact hK ρ _ w (fR h hp h.inv (bZ.refl _ _ _ _) (.p _ _ (.v _))) λ_ _ _ _ _=>rfl
  ·cases he
def A7I (M:Bool) (P:Program) (E:Env) (nt:Nat) (ops:Array Oper) (base:Nat) (Q:St->Prop):Nat->Array Bool->St->Prop
 | 0,listed,st=>Region.ready .any ops listed=[]/\Q st
 | f+1,listed,st=>(Region.ready .any ops listed=[]->Q st)/\∀ i∈Region.ready .any ops listed,∃ o st',ops[i]? = some o/\iV M P E nt ops base i o st=some st'/\A7I M P E nt ops base Q f (listed.setIfInBounds i true) st'
def DW {j:Nat} {o:Oper} (h:iV M P E nt ops base j o st=some st'):st.n<=st'.n:=by
 unfold iV at h;simp only[Option.bind_eq_some_iff] at h;obtain ⟨⟨d,σ',n'⟩,he,hp⟩:=h;obtain ⟨_,rfl⟩:=uC hp;exact BMV he
def BIT (M:Bool) (E:Env) (ops:Array Oper):Bool:=(ops.toList.all λo=>match b9 M E ops o with
  | .BM=>false
  | .mk=>false
  | _=>true)||(ops.toList.all λo=>match b9 M E ops o with
  | .alloc=>false
  | _=>true)
def A1Y (h:BIT M E ops=true):(∀ (i:Nat) (o:Oper),ops[i]? = some o->b9 M E ops o≠.BM/\b9 M E ops o≠.mk)\/(∀ (i:Nat) (o:Oper),ops[i]? = some o->b9 M E ops o≠.alloc):=by
 unfold BIT at h;simp only[Bool.or_eq_true,all_eq_true] at h;rcases h with h|h
 ·exact .inl λi o ho=>⟨λhk=>(by have:=h o (by rw[Array.mem_toList_iff];exact Array.mem_of_getElem? ho);rw[hk] at this;cases this),λhk=>(by have:=h o (by rw[Array.mem_toList_iff];exact Array.mem_of_getElem? ho);rw[hk] at this;cases this)⟩
 ·exact .inr λi o ho hk=>by have:=h o (by rw[Array.mem_toList_iff];exact Array.mem_of_getElem? ho);rw[hk] at this;cases this
def AUL (hmx:BIT M E ops=true) (hE:bB cx.P E) {Q:St->Prop} {Q':Exit->Act->World->Prop} (hQ:∀ st ρ a w,Q st->Rel cx nt ρ st a w->Q' .normal a w):∀ (f:Nat) (listed:Array Bool) (st:St) (ρ:Nat->Option Loc) (a:Act) (w:World),Rel cx nt ρ st a w ->
  listed.size=ops.size->base+ops.size<=st.n->((∀ (i:Nat) (o:Oper),ops[i]? = some o->b9 M E ops o≠.BM/\b9 M E ops o≠.mk)->∀ i,i<ops.size->(∃ o,ops[i]? = some o/\b9 M E ops o = .alloc)->listed.getD i true=false->ρ (base+i)=none)->A7I M cx.P E nt ops base Q f listed st->wpAny cx.P .any ops Q' f listed a w
 | 0,_,st,ρ,a,w,hr,_,_,_,h=>⟨h.1,hQ st ρ a w h.2 hr⟩
 | f+1,listed,st,ρ,a,w,hr,hsz,hn,hfr,h=>by
  refine ⟨λh0=>hQ st ρ a w (h.1 h0) hr,λi hi=>?_⟩;obtain ⟨o,st',h0,h1,h2⟩:=h.2 i hi;have hil:i<ops.size:=(Array.getElem?_eq_some_iff.1 h0).1;have hun:=(mem_ready.1 hi).1;have hun':listed.getD i true=false:=hun;unfold wpOp;simp only[h0];have:=AM3 (Q:=Q') hE hr hil hn (λhka=>by
   rcases A1Y hmx with hl|ha
   ·exact hfr hl i hil ⟨o,h0,hka⟩ hun'
   ·exact absurd hka (ha i o h0)) h1 (K:=wpAny cx.P .any ops Q' f (listed.setIfInBounds i true)) (λρ' a' w' hr' hρ=>AUL hmx hE hQ f _ st' ρ' a' w' hr' (by simpa using hsz) (Nat.le_trans hn (DW h1)) (λhl k hk hka hkl=>by
   have hki:k≠i:=by
    rintro rfl;simp_all
   rw[getD_set_ne true (Ne.symm hki)] at hkl;rw[hρ (hl i o h0).1 (hl i o h0).2 _ (by omega) (by omega)];exact hfr hl k hk hka hkl) h2)
  split
  ·simp_all
  ·simp_all
def ACH:KD->KD->Bool
 | .free,_=>true
 | _,.free=>true
 | .quiet,.quiet=>true
 | .quiet,.ask=>true
 | .ask,.quiet=>true
 | .ask,.ask=>true
 | .quiet,.alloc=>true
 | .quiet,.new=>true
 | .quiet,.mk=>true
 | .mk,.quiet=>true
 | .alloc,.quiet=>true
 | .new,.quiet=>true
 | .app,.quiet=>true
 | .alloc,.alloc=>true
 | _,_=>false
def AVR (M:Bool) (E:Env) (ops:Array Oper) (ms:List Nat) (k j:Nat):Bool :=
 (ms.getD j 0).testBit k||(match ops[k]?,ops[j]? with
  | some a,some b=>a.apart ops b&&ACH (b9 M E ops a) (b9 M E ops b)
  | _,_=>false)
def sN (M:Bool) (E:Env) (ops:Array Oper) (ms:List Nat):List Nat->Array Bool->Bool
 | [],listed=>(Region.ready .any ops listed).isEmpty
 | k::l,listed=>(Region.ready .any ops listed).contains k&&(range ops.size).all (λj=>decide (j=k)||listed.getD j true||AVR M E ops ms k j)&&sN M E ops ms l (listed.setIfInBounds k true)
def isApp (M:Bool) (E:Env) (ops:Array Oper) (j:Nat):Bool:=match ops[j]? with
 | some o=>match b9 M E ops o with
  | .app=>true
  | _=>false
 | none=>false
def APR (M:Bool) (E:Env) (ops:Array Oper):List Nat:=match (range ops.size).filter (isApp M E ops) with
 | []=>range ops.size
 | js=>(λms:List Nat=>(range ops.size).filter (λk=>js.any λj=>decide (j=k)||(ms.getD j 0).testBit k)++(range ops.size).filter (λk=>!js.any λj=>decide (j=k)||(ms.getD j 0).testBit k)) (I8 ops.toList [])
def AEL (M:Bool) (E:Env) (ops:Array Oper):Bool:=BIT M E ops&&decide ((APR M E ops).length=ops.size)&&sN M E ops (I8 ops.toList []) (APR M E ops) (Array.replicate ops.size false)
variable {oi:Oper}
def BK5 {i j:Nat} {oj:Oper} {st₁ st₂:St} (hil:i<ops.size) (hjl:j<ops.size) (hb:base<=st.n) (hij:i≠j) (hap:oi.apart ops oj=true) (hal:ACH (b9 M E ops oi) (b9 M E ops oj)=true)
  (h1:iV M P E nt ops base i oi st=some st₁) (h2:iV M P E nt ops base j oj st₁=some st₂):∃ st₃,iV M P E nt ops base j oj st=some st₃/\iV M P E nt ops base i oi st₃=some st₂:=by
 obtain ⟨a1,a2,a3⟩:=Oper.apart_spec hap;unfold iV at h1 h2;rw[Option.bind_eq_some_iff] at h1 h2;obtain ⟨⟨di,σi,ni⟩,e1,p1⟩:=h1;obtain ⟨⟨dj,σj,nj⟩,e2,p2⟩:=h2;obtain ⟨l1,rfl⟩:=uC p1;obtain ⟨l2,rfl⟩:=uC p2;have c2:∀ σ n,gR M P E ops base j oj (uV st.s oi.dst di) σ n=gR M P E ops base j oj st.s σ n:=λσ n=>TM λu hu=>by
  cases hd:oi.dst with
  | none=>rfl
  | some t=>exact bU _ _ (λ(eq:u=t)=>a1 t hd (by rw[<-eq];exact hu))
 have cs:∀ u∈oi.looksAt ops,uV st.s oj.dst dj u=st.s u:=λu hu=>by
  cases hd:oj.dst with
  | none=>rfl
  | some t=>exact bU _ _ (λ(eq:u=t)=>a3 t hd (by rw[<-eq];exact hu))
 have c1:∀ σ n,gR M P E ops base i oi (uV st.s oj.dst dj) σ n=gR M P E ops base i oi st.s σ n:=λσ n=>TM cs;have cu:∀ (σ:Nat->Option bL) (n:Nat),(⟨uV (uV st.s oj.dst dj) oi.dst di,σ,n⟩:St)=⟨uV (uV st.s oi.dst di) oj.dst dj,σ,n⟩:=by
  intro σ n;cases hdi:oi.dst with
  | none=>rfl
  | some t =>
   cases hdj:oj.dst with
   | none=>rfl
   | some t' =>
    simp only[uV];rw[KH _ _ _ (λ(eq:t'=t)=>a2 t hdi (eq ▸ hdj))]
 rw[c2] at e2;have core:∃ σj' nj',gR M P E ops base j oj st.s st.σ st.n=some (dj,σj',nj')/\gR M P E ops base i oi st.s σj' nj'=some (di,σj,nj):=by
  have free_i:b9 M E ops oi = .free->∃ σj' nj',gR M P E ops base j oj st.s st.σ st.n=some (dj,σj',nj')/\gR M P E ops base i oi st.s σj' nj'=some (di,σj,nj):=λhk=>by
   rw[rG hk] at e1;simp only[aa,Prod.mk.injEq] at e1;obtain ⟨d,g1,rfl,rfl,rfl⟩:=e1;refine ⟨σj,nj,e2,?_⟩;rw[rG hk,VY (σ₀:=st.σ) (n':=st.n) (ML hk),g1];rfl
  have free_j:b9 M E ops oj = .free->∃ σj' nj',gR M P E ops base j oj st.s st.σ st.n=some (dj,σj',nj')/\gR M P E ops base i oi st.s σj' nj'=some (di,σj,nj):=λhk=>by
   rw[rG hk] at e2;simp only[aa,Prod.mk.injEq] at e2;obtain ⟨d,g1,rfl,rfl,rfl⟩:=e2;refine ⟨st.σ,st.n,?_,e1⟩;rw[rG hk,VY (σ₀:=σi) (n':=ni) (ML hk),g1];rfl
  have quiet_i:b9 M E ops oi = .quiet->(b9 M E ops oj = .quiet\/b9 M E ops oj = .alloc\/b9 M E ops oj = .new\/b9 M E ops oj = .mk)->∃ σj' nj',gR M P E ops base j oj st.s st.σ st.n=some (dj,σj',nj')/\gR M P E ops base i oi st.s σj' nj'=some (di,σj,nj):=λhk hkj=>by
   rw[mN hk] at e1;simp only[aa,Prod.mk.injEq] at e1;obtain ⟨d,g1,rfl,rfl,rfl⟩:=e1;have hlow:=G5 hb hkj e2;refine ⟨σj,nj,e2,?_⟩;rw[mN hk,BBY hlow,FU (λ_ _ h=>h) (yF hk) g1];rfl
  have quiet_j:b9 M E ops oj = .quiet->(∀ k b,k<base->σi k=some b->st.σ k=some b)->∃ σj' nj',gR M P E ops base j oj st.s st.σ st.n=some (dj,σj',nj')/\gR M P E ops base i oi st.s σj' nj'=some (di,σj,nj):=λhk hsub=>by
   rw[mN hk] at e2;simp only[aa,Prod.mk.injEq] at e2;obtain ⟨d,g1,rfl,rfl,rfl⟩:=e2;refine ⟨st.σ,st.n,?_,e1⟩;rw[mN hk,FU (AR0 hsub) (yF hk) g1];rfl
  have ask_j:b9 M E ops oj = .ask->σi=st.σ->ni=st.n->∃ σj' nj',gR M P E ops base j oj st.s st.σ st.n=some (dj,σj',nj')/\gR M P E ops base i oi st.s σj' nj'=some (di,σj,nj):=λhk es en=>by
   subst es;subst en;have e2':=e2;rw[G4 hk] at e2;simp only[aa,Prod.mk.injEq] at e2;obtain ⟨d,g1,rfl,rfl,rfl⟩:=e2;exact ⟨st.σ,st.n,e2',e1⟩
  have stay:b9 M E ops oi = .quiet\/b9 M E ops oi = .ask->σi=st.σ/\ni=st.n:=λhk=>by
   rcases hk with hk|hk
   ·rw[mN hk] at e1;simp only[aa,Prod.mk.injEq] at e1;obtain ⟨d,g1,rfl,rfl,rfl⟩:=e1;simp
   ·rw[G4 hk] at e1;simp only[aa,Prod.mk.injEq] at e1;obtain ⟨d,g1,rfl,rfl,rfl⟩:=e1;simp
  cases hki:b9 M E ops oi with
  | free=>exact free_i hki
  | ask =>
   obtain ⟨es,en⟩:=stay (.inr hki);cases hkj:b9 M E ops oj with
   | free=>exact free_j hkj
   | quiet=>exact quiet_j hkj λk b _ h=>by rw[<-es];exact h
   | ask=>exact ask_j hkj es en
   | _=>rw[hki,hkj] at hal;cases hal
  | quiet =>
   cases hkj:b9 M E ops oj with
   | free=>exact free_j hkj
   | quiet=>exact quiet_i hki (.inl hkj)
   | ask=>exact ask_j hkj (stay (.inl hki)).1 (stay (.inl hki)).2
   | alloc=>exact quiet_i hki (.inr (.inl hkj))
   | new=>exact quiet_i hki (.inr (.inr (.inl hkj)))
   | mk=>exact quiet_i hki (.inr (.inr (.inr hkj)))
   | _=>rw[hki,hkj] at hal;cases hal
  | alloc =>
   cases hkj:b9 M E ops oj with
   | free=>exact free_j hkj
   | quiet =>
    have hlow:=G5 hb (.inr (.inl hki)) e1;simp_all
   | alloc =>
    obtain ⟨_,e,q3⟩:=sL hki;obtain ⟨_,e',r3⟩:=sL hkj;have ei:∀ σ n,gR M P E ops base i oi st.s σ n=((tz? P e).bind λz=>uW (z.cells.toList.map λv=>.p (.v v))).map λb=>(.ptr (base+i) 0 0,cJ σ (base+i) (some b),n):=λσ n=>by unfold gR;rw[hki];simp only[q3]
    have ej:∀ σ n,gR M P E ops base j oj st.s σ n=((tz? P e').bind λz=>uW (z.cells.toList.map λv=>.p (.v v))).map λb=>(.ptr (base+j) 0 0,cJ σ (base+j) (some b),n):=λσ n=>by unfold gR;rw[hkj];simp only[r3]
    rw[ei] at e1;rw[ej] at e2;simp only[aa,Prod.mk.injEq] at e1 e2;obtain ⟨bi,g1,rfl,rfl,rfl⟩:=e1;obtain ⟨bj,g2,rfl,rfl,rfl⟩:=e2;refine ⟨cJ st.σ (base+j) (some bj),st.n,?_,?_⟩
    ·simp_all
    ·rw[ei,g1];simp only[Option.map_some];rw[KH _ _ _ (show base+j≠base+i by omega)]
   | _=>rw[hki,hkj] at hal;cases hal
  | new =>
   cases hkj:b9 M E ops oj with
   | free=>exact free_j hkj
   | quiet =>
    have hlow:=G5 hb (.inr (.inr (.inl hki))) e1;simp_all
   | _=>rw[hki,hkj] at hal;cases hal
  | mk =>
   cases hkj:b9 M E ops oj with
   | free=>exact free_j hkj
   | quiet =>
    have hlow:=G5 hb (.inr (.inr (.inr hki))) e1;simp_all
   | _=>rw[hki,hkj] at hal;cases hal
  | app =>
   cases hkj:b9 M E ops oj with
   | free=>exact free_j hkj
   | quiet=>exact quiet_j hkj (A8F hki hb e1)
   | _=>rw[hki,hkj] at hal;cases hal
  | old =>
   cases hkj:b9 M E ops oj with
   | free=>exact free_j hkj
   | _=>rw[hki,hkj] at hal;cases hal
  | BM =>
   cases hkj:b9 M E ops oj with
   | free=>exact free_j hkj
   | _=>rw[hki,hkj] at hal;cases hal
 obtain ⟨σj',nj',k1,k2⟩:=core;refine ⟨⟨uV st.s oj.dst dj,σj',nj'⟩,?_,?_⟩
 ·unfold iV;rw[k1];exact yL l2
 ·unfold iV;rw[c1,k2];refine (yL l1).trans ?_;simp_all
def APH {Q:St->Prop} {i:Nat} (hi:ops[i]? = some oi) :
  ∀ (f:Nat) (listed:Array Bool) (st st₁:St),uL ops listed->base<=st.n ->
   (∀ j oj,ops[j]? = some oj->j≠i->listed.getD j true=false->Reach ops j i\/(ACH (b9 M E ops oi) (b9 M E ops oj)=true/\oi.apart ops oj=true)) ->
   i∈Region.ready .any ops listed->iV M P E nt ops base i oi st=some st₁ ->
   A7I M P E nt ops base Q f (listed.setIfInBounds i true) st₁->A7I M P E nt ops base Q (f+1) listed st:=by
 intro f
 induction f with
 | zero =>
  intro listed st st₁ _ _ _ hr hs H;refine ⟨λh=>(by rw[h] at hr;cases hr),λj hj=>?_⟩;by_cases hji:j=i
  ·simp_all
  ·have:=ready_mono hj hji;rw[H.1] at this;cases this
 | succ f ih =>
  intro listed st st₁ hc hb hfree hr hs H;refine ⟨λh=>(by rw[h] at hr;cases hr),λj hj=>?_⟩;by_cases hji:j=i
  ·simp_all
  ·obtain ⟨oj,st₂,hoj,h2,H2⟩:=H.2 j (ready_mono hj hji);obtain ⟨hjun,oj',hoj',hall⟩:=mem_ready.1 hj;rw[hoj] at hoj';cases hoj';have hiun:=(mem_ready.1 hr).1;rcases hfree j oj hoj hji hjun with hre|⟨hal,hap⟩
   ·have:=hre.listed hc (λo ho e he hb=>by rw[hoj] at ho;cases ho;exact hall e he hb);rcases Nat.lt_or_ge i listed.size with h'|h'
    ·simp_all
    ·simp_all
   ·obtain ⟨st₃,h3,h4⟩:=BK5 (Array.getElem?_eq_some_iff.1 hi).1 (Array.getElem?_eq_some_iff.1 hoj).1 hb (Ne.symm hji) hap hal hs h2;refine ⟨oj,st₃,hoj,h3,ih (listed.setIfInBounds j true) st₃ st₂ (lK hc hj) (Nat.le_trans hb (DW h3)) (λk ok hk hki hun=>?_) (ready_mono hr (Ne.symm hji)) h4 ?_⟩
    ·by_cases hjk:j=k
     ·simp_all
     ·simp_all
    ·rw[Array.setIfInBounds_comm _ _ hji];exact H2
def AH3 {P:Program} {Q:St->Prop} {ms:List Nat} (hms:∀ j i,(ms.getD j 0).testBit i=true->Reach ops j i) {st':St} (hQ:Q st'):∀ (l:List Nat) (listed:Array Bool) (st:St),uL ops listed->base<=st.n ->
  sN M E ops ms l listed=true->evD M P E nt ops base l st=some st'->A7I M P E nt ops base Q l.length listed st
 | [],_,_,_,_,hB,h=>by
  cases h;exact ⟨by simpa [sN] using hB,hQ⟩
 | k::l,listed,st,hc,hb,hB,h=>by
  simp only[List.length_cons,sN,ac] at hB;obtain ⟨⟨hr,hf⟩,hB'⟩:=hB;have hr':k∈Region.ready .any ops listed:=by simpa using hr
  simp only[evD] at h;split at h
  ·rename_i o h0;simp only[Option.bind_eq_some_iff] at h;obtain ⟨st1,h1,h2⟩:=h;refine APH h0 l.length listed st st1 hc hb (λj oj hoj hjk hun=>?_) hr' h1 (AH3 hms hQ l _ st1 (lK hc hr') (Nat.le_trans hb (DW h1)) hB' h2);have hjs:j<ops.size:=(Array.getElem?_eq_some_iff.1 hoj).1;have:=all_eq_true.1 hf j (by simpa using hjs);simp only[Bool.or_eq_true,ah] at this;rcases this with (hle|hl)|hp
   ·omega
   ·simp_all
   ·unfold AVR at hp;simp only[Bool.or_eq_true] at hp;rcases hp with hp|hp
    ·simp_all
    ·simp_all
  ·cases h
def p9 (ops:Array Oper) (st:St):St:=⟨st.s,st.σ,st.n+ops.size⟩
def BLT (ops:List Oper) (st:St):Nat->Operand->Option Nat
 | 0,_=>none
 | f+1,x=>match ev (cN true st.s) x with
  | .ptr k _ _=>some k
  | _=>match x with
   | .tmp t=>match ops.find? (λo=>o.dst == some t) with
    | some o=>match o.op with
     | .fieldAddr _ a _=>BLT ops st f a
     | _=>none
    | none=>none
   | _=>none
def BTF (ops:Array Oper) (st:St):Option Nat:=ops.toList.foldl (λm o=>match o.op with
 | .store _ a _=>match BLT ops.toList st 6 a,m with
  | some k,some m=>some (min k m)
  | _,_=>none
 | _=>m) (some st.n)
def AUR (E:Env) (ops:Array Oper) (st:St):Option (Bool×Nat):=match AEL false E ops with
 | true=>some (false,st.n)
 | false=>match AEL true E ops&&BI0 ops,BTF ops st with
  | true,some b=>match Nat.ble b st.n with
   | true=>some (true,b)
   | false=>none
  | _,_=>none
def AGW (hE:bB cx.P E) (hm:cx.P.follows .mixedOrders=true) {id:Nat} {Q:Exit->St->Prop} {M:Bool} {base:Nat} (hb:AUR E ops st=some (M,base)) (h:evD M cx.P E nt ops base (APR M E ops) (p9 ops st)=some st') (hq:Q .normal st'):AW cx nt (.region id ops true) Q st:=by
 have hx:AEL M E ops=true/\base<=st.n/\(base=st.n\/BI0 ops=true):=by
  unfold AUR at hb;split at hb
  ·cases hb;exact ⟨‹_›,al _,.inl rfl⟩
  ·split at hb
   ·rename_i h1 h2;split at hb
    ·rename_i h3;cases hb;rw[ac] at h1;exact ⟨h1.1,Nat.le_of_ble_eq_true h3,.inr h1.2⟩
    ·cases hb
   ·cases hb
 obtain ⟨hB,hle,hno⟩:=hx;intro ρ a w hr;refine wp_region_any hm ?_;have hd:Below w.heap.size w w.drew:=(Below.refl _ _).drew;have hr':Rel cx nt ρ (p9 ops st) a w.drew:=⟨hr.inv.grow hd (Nat.le_add_right _ _),hr.nt,hr.defers,hr.keeps.trans' (bZ.pV hd),hr.yB.below hd,λi=>(hr.uD i).grow hd⟩
 have hρ0:∀ k,st.n<=k->ρ k=none:=λk hk=>by
  cases hx:ρ k with
  | none=>rfl
  | some l=>have:=(hr.inv.new k l hx).1;omega
 simp only[AEL,ac,ah] at hB;obtain ⟨⟨hmx,hlen⟩,hB⟩:=hB;have hlex:=AH3 (P:=cx.P) (E:=E) (nt:=nt) (base:=base) (Q:=λs=>s=st') (ms:=I8 ops.toList []) (λj i hb=>tX ops.toList [] (by simp) (λj i hb=>by simp at hb) j i hb) rfl (APR M E ops) (Array.replicate ops.size false) (p9 ops st)
  (λm o _ hm'=>by simp[Array.getElem?_replicate] at hm';split at hm'<;>simp at hm') (Nat.le_trans hle (Nat.le_add_right _ _)) hB h
 rw[hlen] at hlex;exact AUL hmx (Q:=λs=>s=st') (Q':=DZ cx nt Q) hE (λs ρ a w hs hr=>by subst hs;exact ⟨s,ρ,hr,hq⟩) ops.size (Array.replicate ops.size false) (p9 ops st) ρ a w.drew hr' (by simp) (Nat.add_le_add_right hle _) (λ_ i hi ho _=>by
  rcases hno with rfl|hno
  ·exact hρ0 _ (by omega)
  ·obtain ⟨o,h0,hk⟩:=ho;obtain ⟨_,e,he⟩:=sL hk;have:=all_eq_true.1 hno o (by rw[Array.mem_toList_iff];exact Array.mem_of_getElem? h0);rw[he] at this;cases this) hlex
def A7J (M:Bool) (P:Program) (E:Env) (nt:Nat) (ops:Array Oper) (base:Nat) (T:Array Bool->St->Prop):Nat->Array Bool->St->Prop
 | 0,listed,st=>T listed st
 | f+1,listed,st=>Region.ready .any ops listed≠[]/\∀ i∈Region.ready .any ops listed,∃ o st',ops[i]? = some o/\iV M P E nt ops base i o st=some st'/\A7J M P E nt ops base T f (listed.setIfInBounds i true) st'
def yJ (M:Bool) (E:Env) (ops:Array Oper) (ms:List Nat):List Nat->Array Bool->Bool
 | [],_=>true
 | k::l,listed=>(Region.ready .any ops listed).contains k&&(range ops.size).all (λj=>decide (j=k)||listed.getD j true||AVR M E ops ms k j)&&yJ M E ops ms l (listed.setIfInBounds k true)
def HH (ops:Array Oper):Nat->Nat->Array Bool->Bool
 | 0,_,listed=>(Region.ready .any ops listed).isEmpty
 | c+1,k,listed=>(match Region.ready .any ops listed with
  | [i]=>decide (i=k)
  | _=>false)&&HH ops c (k+1) (listed.setIfInBounds k true)
def BQC (l:List Nat) (listed:Array Bool):Array Bool:=l.foldl (λL k=>L.setIfInBounds k true) listed
def AEM (E:Env) (ops:Array Oper) (t:Nat):Bool:=BI0 ops&&(decide (t<=ops.size)&&(((range ops.size).all λj=>decide (j<t)||(range t).all λi=>((I8 ops.toList []).getD j 0).testBit i) &&
 (yJ false E ops (I8 ops.toList []) (range t) (Array.replicate ops.size false)&&HH ops (ops.size-t) t (BQC (range t) (Array.replicate ops.size false)))))
def ALS:∀ (t:Nat) (S:List Nat),S.Nodup->(∀ j∈S,j<t)->S.length<=t
 | 0,S,_,h=>by
  cases S with
  | nil=>simp
  | cons a S=>have:=h a (by simp);omega
 | t+1,S,hn,h=>by
  have h1:=ALS t (S.erase t) (hn.erase t) λj hj=>by
   grind
  by_cases hm:t∈S
  ·simp_all
  ·rw[List.erase_of_not_mem hm] at h1;omega
def Left (t:Nat) (listed:Array Bool) (f:Nat):Prop:=∀ S:List Nat,S.Nodup->(∀ j∈S,j<t/\listed.getD j true=false)->S.length<=f
def Left.step {t f j:Nat} {listed:Array Bool} (h:Left t listed (f+1)) (hj:j<t) (hu:listed.getD j true=false):Left t (listed.setIfInBounds j true) f:=λS hn hS=>by
 have hjs:j<listed.size:=by
  rcases Nat.lt_or_ge j listed.size with h'|h'
  ·exact h'
  ·simp_all
 have hnot:j∉S:=λhm=>by
  have:=(hS j hm).2;simp_all
 have:=h (j::S) (List.nodup_cons.2 ⟨hnot,hn⟩) λi hi=>by
  rcases List.mem_cons.1 hi with rfl|hi
  ·simp_all
  ·have h1:=hS i hi;have hne:j≠i:=λe=>hnot (e ▸ hi);simp_all
 simp_all
def API {T:Array Bool->St->Prop} {t i:Nat} (htl:∀ j oj,ops[j]? = some oj->t<=j->∀ i,i<t->Reach ops j i) (hi:ops[i]? = some oi) (hit:i<t) :
  ∀ (f:Nat) (listed:Array Bool) (st st₁:St),uL ops listed->base<=st.n->Left t listed (f+1) ->
   (∀ j oj,ops[j]? = some oj->j≠i->listed.getD j true=false->Reach ops j i\/(ACH (b9 M E ops oi) (b9 M E ops oj)=true/\oi.apart ops oj=true)) ->
   i∈Region.ready .any ops listed->iV M P E nt ops base i oi st=some st₁ ->
   A7J M P E nt ops base T f (listed.setIfInBounds i true) st₁->A7J M P E nt ops base T (f+1) listed st:=by
 have low:∀ {listed:Array Bool} {j:Nat},uL ops listed->listed.getD i true=false->j∈Region.ready .any ops listed->j<t:=λ{listed j} hc hiun hj=>by
  rcases Nat.lt_or_ge j t with h|h
  ·exact h
  ·obtain ⟨_,oj,hoj,hall⟩:=mem_ready.1 hj;have:=(htl j oj hoj h i hit).listed hc (λo ho e he hb=>by rw[hoj] at ho;cases ho;exact hall e he hb);rcases Nat.lt_or_ge i listed.size with h'|h'
   ·simp_all
   ·simp_all
 intro f
 induction f with
 | zero =>
  intro listed st st₁ hc _ hl _ hr hs H;refine ⟨λh=>(by rw[h] at hr;cases hr),λj hj=>?_⟩;by_cases hji:j=i
  ·simp_all
  ·have hiun:=(mem_ready.1 hr).1;have hjun:=(mem_ready.1 hj).1;have:=hl [i,j] (by simp[Ne.symm hji]) λk hk=>by
    simp only[List.mem_cons,List.not_mem_nil,or_false] at hk;rcases hk with rfl|rfl
    ·simp_all
    ·exact ⟨low hc hiun hj,hjun⟩
   simp at this
 | succ f ih =>
  intro listed st st₁ hc hb hl hfree hr hs H;refine ⟨λh=>(by rw[h] at hr;cases hr),λj hj=>?_⟩;by_cases hji:j=i
  ·simp_all
  ·obtain ⟨oj,st₂,hoj,h2,H2⟩:=H.2 j (ready_mono hj hji);obtain ⟨hjun,oj',hoj',hall⟩:=mem_ready.1 hj;rw[hoj] at hoj';cases hoj';have hiun:=(mem_ready.1 hr).1;rcases hfree j oj hoj hji hjun with hre|⟨hal,hap⟩
   ·have:=hre.listed hc (λo ho e he hb=>by rw[hoj] at ho;cases ho;exact hall e he hb);rcases Nat.lt_or_ge i listed.size with h'|h'
    ·simp_all
    ·simp_all
   ·obtain ⟨st₃,h3,h4⟩:=BK5 (Array.getElem?_eq_some_iff.1 hi).1 (Array.getElem?_eq_some_iff.1 hoj).1 hb (Ne.symm hji) hap hal hs h2;refine ⟨oj,st₃,hoj,h3,ih (listed.setIfInBounds j true) st₃ st₂ (lK hc hj) (Nat.le_trans hb (DW h3)) (hl.step (low hc hiun hj) hjun) (λk ok hk hki hun=>?_) (ready_mono hr (Ne.symm hji)) h4 ?_⟩
    ·refine hfree k ok hk hki ?_;by_cases hjk:j=k
     ·simp_all
     ·rw[getD_set_ne true hjk] at hun;exact hun
    ·rw[Array.setIfInBounds_comm _ _ hji];exact H2
def AH4 {P:Program} {T:Array Bool->St->Prop} {ms:List Nat} {t:Nat} (htl:∀ j oj,ops[j]? = some oj->t<=j->∀ i,i<t->Reach ops j i) (hms:∀ j i,(ms.getD j 0).testBit i=true->Reach ops j i) {st':St}:∀ (l:List Nat) (listed:Array Bool) (st:St),(∀ k∈l,k<t)->uL ops listed->base<=st.n->Left t listed l.length ->
  yJ M E ops ms l listed=true->evD M P E nt ops base l st=some st'->T (BQC l listed) st'->A7J M P E nt ops base T l.length listed st
 | [],_,_,_,_,_,_,_,h,hT=>by
  cases h;exact hT
 | k::l,listed,st,hk,hc,hb,hl,hB,h,hT=>by
  simp only[yJ,ac] at hB;obtain ⟨⟨hr,hf⟩,hB'⟩:=hB;have hr':k∈Region.ready .any ops listed:=by simpa using hr
  simp only[evD] at h;split at h
  ·rename_i o h0;simp only[Option.bind_eq_some_iff] at h;obtain ⟨st1,h1,h2⟩:=h;refine API htl h0 (hk k (by simp)) l.length listed st st1 hc hb hl (λj oj hoj hjk hun=>?_) hr' h1 (AH4 htl hms l _ st1 (λq hq=>hk q (by simp[hq])) (lK hc hr') (Nat.le_trans hb (DW h1)) (hl.step (hk k (by simp)) (mem_ready.1 hr').1) hB' h2 hT);have hjs:j<ops.size:=(Array.getElem?_eq_some_iff.1 hoj).1;have:=all_eq_true.1 hf j (by simpa using hjs);simp only[Bool.or_eq_true,ah] at this;rcases this with (hle|hl)|hp
   ·omega
   ·simp_all
   ·unfold AVR at hp;simp only[Bool.or_eq_true] at hp;rcases hp with hp|hp
    ·simp_all
    ·simp_all
  ·cases h
def AUM (hno:∀ (i:Nat) (o:Oper),ops[i]? = some o->b9 M E ops o≠.alloc) (hE:bB cx.P E) {T:Array Bool->St->Prop} {Q':Exit->Act->World->Prop} (m:Nat) (hT:∀ listed st ρ a w,T listed st->Rel cx nt ρ st a w->wpAny cx.P .any ops Q' m listed a w) :
  ∀ (f:Nat) (listed:Array Bool) (st:St) (ρ:Nat->Option Loc) (a:Act) (w:World),Rel cx nt ρ st a w->base+ops.size<=st.n->A7J M cx.P E nt ops base T f listed st->wpAny cx.P .any ops Q' (f+m) listed a w
 | 0,listed,st,ρ,a,w,hr,_,h=>by rw[Nat.zero_add];exact hT listed st ρ a w h hr
 | f+1,listed,st,ρ,a,w,hr,hn,h=>by
  rw[show f+1+m=(f+m)+1 by omega];refine ⟨λh0=>absurd h0 h.1,λi hi=>?_⟩;obtain ⟨o,st',h0,h1,h2⟩:=h.2 i hi;have hil:i<ops.size:=(Array.getElem?_eq_some_iff.1 h0).1;unfold wpOp;simp only[h0];have:=AM3 (Q:=Q') hE hr hil hn (λhka=>absurd hka (hno i o h0)) h1 (K:=wpAny cx.P .any ops Q' (f+m) (listed.setIfInBounds i true)) (λρ' a' w' hr' _=>AUM hno hE m hT f _ st' ρ' a' w' hr' (Nat.le_trans hn (DW h1)) h2);split
  ·simp_all
  ·simp_all
def BFP {ops:Array Oper} {i:Nat} {K':Act->World->Prop} (hk:∀ a w,K a w->K' a w) {a:Act} {w:World} (h:wpOp P ops Q i K a w):wpOp P ops Q i K' a w:=by
 unfold wpOp at h ⊢;split at h
 ·simp_all
 ·split at h
  ·rename_i hw;rw[if_pos hw];rcases h with h|h
   ·exact .inl (Oper.wp_mono hk h)
   ·simp_all
  ·simp_all
def ZI {P:Program} {Q:Exit->Act->World->Prop}:∀ (c k:Nat) (listed:Array Bool) (a:Act) (w:World),HH ops c k listed=true->wpOps P ops Q (range' k c) a w->wpAny P .any ops Q c listed a w
 | 0,k,listed,a,w,h,hw=>by
  simp only[HH,List.isEmpty_iff] at h;exact ⟨h,by simpa [wpOps] using hw⟩
 | c+1,k,listed,a,w,h,hw=>by
  simp only[HH,ac] at h;obtain ⟨h1,h2⟩:=h;split at h1
  ·rename_i i hr;have hik:i=k:=of_decide_eq_true h1;subst hik;refine ⟨λh0=>(by rw[hr] at h0;cases h0),λj hj=>?_⟩;rw[hr] at hj;have:j=i:=by simpa using hj
   subst this;exact BFP (λa w=>ZI c (j+1) _ a w h2) hw
  ·cases h1
def A33 (hE:bB cx.P E) (hm:cx.P.follows .mixedOrders=true) {id t:Nat} {Q:Exit->St->Prop} (hB:AEM E ops t=true) (h:evD false cx.P E nt ops st.n (range t) (p9 ops st)=some st')
  (hq:∀ ρ a w,Rel cx nt ρ st' a w->wpOps cx.P ops (DZ cx nt Q) (range' t (ops.size-t)) a w):AW cx nt (.region id ops true) Q st:=by
 intro ρ a w hr;refine wp_region_any hm ?_;have hd:Below w.heap.size w w.drew:=(Below.refl _ _).drew;have hr':Rel cx nt ρ (p9 ops st) a w.drew:=⟨hr.inv.grow hd (Nat.le_add_right _ _),hr.nt,hr.defers,hr.keeps.trans' (bZ.pV hd),hr.yB.below hd,λi=>(hr.uD i).grow hd⟩
 simp only[AEM,ac,ah] at hB;obtain ⟨hno,hle,htl,hord,hfor⟩:=hB;have hrm:=λj i hb=>tX (ops:=ops) ops.toList [] (by simp) (λj i hb=>by simp at hb) j i hb;have hno':∀ (i:Nat) (o:Oper),ops[i]? = some o->b9 false E ops o≠.alloc:=λi o ho hk=>by
  obtain ⟨_,e,he⟩:=sL hk;have:=all_eq_true.1 hno o (by rw[Array.mem_toList_iff];exact Array.mem_of_getElem? ho);simp_all
 have htl':∀ j oj,ops[j]? = some oj->t<=j->∀ i,i<t->Reach ops j i:=λj oj hj htj i hi=>by
  have hjs:j<ops.size:=(Array.getElem?_eq_some_iff.1 hj).1;have h1:=all_eq_true.1 htl j (by simpa using hjs);simp only[Bool.or_eq_true,ah] at h1;rcases h1 with h1|h1
  ·omega
  ·simp_all
 have hlex:=AH4 (P:=cx.P) (M:=false) (E:=E) (nt:=nt) (base:=st.n) (T:=λL s=>L=BQC (range t) (Array.replicate ops.size false)/\s=st') htl' hrm (range t) (Array.replicate ops.size false) (p9 ops st) (λk hk=>by simpa using hk)
  (λm o _ hm'=>by simp[Array.getElem?_replicate] at hm';split at hm'<;>simp at hm') (Nat.le_add_right _ _) (λS hn hS=>by
   have:=ALS t S hn λj hj=>(hS j hj).1;simpa using this) hord h ⟨rfl,rfl⟩
 rw[List.length_range] at hlex;have:=AUM (Q':=DZ cx nt Q) hno' hE (ops.size-t) (λL s ρ a w hs hr=>by
  obtain ⟨rfl,rfl⟩:=hs;exact ZI _ _ _ _ _ hfor (hq ρ a w hr)) t (Array.replicate ops.size false) (p9 ops st) ρ a w.drew hr' (al _) hlex
 simp_all
end
end Go.Pv
