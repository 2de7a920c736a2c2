/-
  The pure evaluator, part v: regions that draw their order, with new variables in them.
-/
import Derived.Test.YtcnfagefgkblkaaGreatDoorVrwm
set_option linter.defProp false
set_option linter.unusedSimpArgs false
namespace Go.Pv
open Go Go.RowKit
open List (all_eq_true range mem_cons range')
def EM (σ₀ σ:Nat->Option bE):Prop:=∀ k x,σ₀ k=some x->σ k=some x
section
variable {P : Program} {σ₀ σ : Nat -> Option bE}
def EM.bind (h:EM σ₀ σ) {k:Nat} {α:Type} {f:bE->Option α} {a:α} (hb:(σ₀ k).bind f=some a):(σ k).bind f=some a:=by
 rw[Option.bind_eq_some_iff] at hb ⊢;obtain ⟨x,h1,h2⟩:=hb;exact ⟨x,h _ _ h1,h2⟩
def ALP (h:EM σ₀ σ) {t:TypeId} {d r:D} (hr:zP P σ₀ t d=some r):zP P σ t d=some r:=by
 unfold zP at hr ⊢;split at hr
 ·split at hr
  ·exact hr
  ·split at hr
   ·rename_i rs hk
    try simp only[h.bind hk]
    exact hr
   ·cases hr
  ·cases hr
 ·cases hr
def LG (h:EM σ₀ σ) {t:TypeId} {d i r:D} (hr:dM P σ₀ t d i=some r):dM P σ t d i=some r:=by
 unfold dM at hr ⊢;split at hr
 ·rename_i kk i;by_cases hi:i<0
  ·simp_all
  ·rw[if_neg hi] at hr ⊢;split at hr
   ·split at hr
    ·exact hr
    ·split at hr
     ·rename_i hlt;rw[if_pos hlt];split at hr
      ·rename_i rs hk
       try simp only[h.bind hk]
       exact hr
      ·cases hr
     ·cases hr
    ·split at hr
     ·rename_i rs hk
      try simp only[h.bind hk]
      exact hr
     ·cases hr
    ·cases hr
   ·omega
 ·cases hr
def AVQ (h:EM σ₀ σ) {t:TypeId} {d r:D} (hr:AVP P σ₀ t d=some r):AVP P σ t d=some r:=by
 unfold AVP at hr ⊢;split at hr
 ·omega
 ·split at hr
  ·exact hr
  ·split at hr
   ·rename_i hk;try simp only[h _ _ hk]
    exact hr
   ·rename_i hk;try simp only[h _ _ hk]
    exact hr
   ·cases hr
  ·exact hr
  ·cases hr
 ·split at hr
  ·split at hr
   ·rename_i hk;try simp only[h _ _ hk]
    exact hr
   ·cases hr
  ·exact hr
  ·cases hr
 ·omega
 ·cases hr
def ALR (h:EM σ₀ σ) {t:TypeId} {x i r:D} {ok:Bool} (hr:wY P σ₀ t x i ok=some r):wY P σ t x i ok=some r:=by
 unfold wY at hr ⊢;split at hr
 ·split at hr
  ·split at hr
   ·cases hr
   ·split at hr
    ·split at hr
     ·rename_i hm;try simp only[h _ _ hm]
      exact hr
     ·cases hr
    ·exact hr
    ·exact hr
    ·cases hr
  ·cases hr
 ·cases hr
def mapM_mono {α β:Type} {f g:α->Option β} (hfg:∀ a b,f a=some b->g a=some b):∀ {l:List α} {bs:List β},l.mapM f=some bs->l.mapM g=some bs
 | [],bs,h=>h
 | a::l,bs,h=>by
  simp only[List.mapM_cons,Option.bind_eq_bind,Option.bind_eq_some_iff,Option.pure_def] at h ⊢;obtain ⟨b,h1,bs',h2,h3⟩:=h;exact ⟨b,hfg _ _ h1,bs',mapM_mono hfg h2,h3⟩
def PN (h:EM σ₀ σ):∀ (n:Nat) (d:D) (t:T),iG σ₀ n d=some t->iG σ n d=some t:=by
 intro n
 induction n with
 | zero=>intro d t hd;cases d<;>simp[iG] at hd ⊢ <;> exact hd
 | succ n ih =>
  intro d t hd;have ihL:∀ {ds:List D} {ts:List T},ds.mapM (iG σ₀ n)=some ts->ds.mapM (iG σ n)=some ts:=λhm=>mapM_mono ih hm;have ihR:∀ {rs:List (List D)} {ts:List (List T)},rs.mapM (λ(r:List D)=>r.mapM (iG σ₀ n))=some ts->rs.mapM (λ(r:List D)=>r.mapM (iG σ n))=some ts:=λhm=>mapM_mono (λ_ _ hm=>mapM_mono ih hm) hm;cases d with
  | p t'=>exact hd
  | agg cs =>
   simp only[iG,aa] at hd ⊢
   grind
  | bX cs =>
   simp only[iG,aa] at hd ⊢
   grind
  | fn f a b =>
   simp only[iG] at hd ⊢
   grind
  | ptr k i j =>
   simp only[iG] at hd ⊢;split at hd
   ·rename_i rs hk;simp only[h.bind hk];split at hd
    ·split at hd
     ·rename_i hj;simp only[aa] at hd ⊢
      grind
     ·cases hd
    ·cases hd
   ·cases hd
  | own k =>
   simp only[iG] at hd ⊢;split at hd
   ·rename_i hk;simp only[h _ _ hk];exact hd
   ·rename_i hk;simp only[h _ _ hk];simp only[aa] at hd ⊢
    grind
   ·cases hd
  | bs k off len =>
   simp only[iG] at hd ⊢;split at hd
   ·rename_i hk;simp only[h _ _ hk];exact hd
   ·rename_i hk;simp only[h _ _ hk];split at hd
    ·rename_i hle;simp only[aa] at hd ⊢
     grind
    ·cases hd
   ·cases hd
  | map k =>
   simp only[iG] at hd ⊢;split at hd
   ·rename_i hk;simp only[h _ _ hk];simp only[aa] at hd ⊢;obtain ⟨ts,h1,h2⟩:=hd;refine ⟨ts,mapM_mono (λe b he=>?_) h1,h2⟩;simp only[aa] at he ⊢
    grind
   ·cases hd
  | _=>simp[iG] at hd
def GA (E:Env) (f:FuncId):Bool:=match E f with
 | some (.pure _)=>true
 | some (.new _)=>true
 | some (.ATX _)=>true
 | some (.ext _)=>true
 | _=>false
variable {E:Env}{n':Nat}
def AJO (h:EM σ₀ σ) {n:Nat} {f:FuncId} {c:D} {args:List D} {r:D} (hc:c = .p (.fn f [] [])) (hf:GA E f=true) (hr:qR E σ₀ n c args=some r):qR E σ n' c args=some r:=by
 subst hc;unfold qR at hr ⊢;simp only[jT] at hr ⊢;unfold GA at hf;split at hf
 ·rename_i g hg;simp only[hg] at hr ⊢;split at hr
  ·exact hr
  ·split at hr
   ·rename_i ts hts;rw[mapM_mono (PN h 4) hts];exact hr
   ·cases hr
 ·rename_i g hg;simp only[hg] at hr ⊢;split at hr
  ·rename_i ts hts;rw[mapM_mono (PN h 4) hts];exact hr
  ·cases hr
 ·rename_i g hg;simp only[hg] at hr ⊢;split at hr
  ·rename_i ts hts;rw[mapM_mono (PN h 4) hts];exact hr
  ·cases hr
 ·simp_all
 ·cases hf
def zV (E:Env) (op:Op):Bool:=match op with
 | .load .. | .indexAddr .. | .lookup .. | .makeFunc .. | .nilCheck .. => true
 | .slice .. => E.marked 6000000000
 | .call c=>match c.callee with
  | .builtin .len=>true
  | .builtin .min=>true
  | .builtin .max=>true
  | .value (.func f)=>GA E f
  | _=>false
 | op=>kW E op
def Y4 {op:Op} (h:zV E op=true):eF E op=true:=by
 unfold zV at h;split at h<;>try rfl
 ·split at h
  ·rename_i hc;simp[eF,hc]
  ·rename_i hc;simp[eF,hc]
  ·rename_i hc;simp[eF,hc]
  ·rename_i f hc;simp only[eF,hc,Env.A6K];unfold GA at h
   grind
  ·cases h
 ·exact pS h
def HD {σ₀ σ:Nat->Option bE} (h:EM σ₀ σ) {k z:Nat} (hw:jX σ₀ k z=true):jX σ k z=true:=by
 unfold jX at hw ⊢;cases hk:σ₀ k with
 | none=>rw[hk] at hw;cases hw
 | some b=>rw[hk] at hw;rw[h k b hk];exact hw
def AGN {P:Program} {σ₀ σ:Nat->Option bE} (h:EM σ₀ σ) {t:TypeId} {d:D} {lo hi mx:Option D} {r:D} (hr:kY P σ₀ t d lo hi mx=some r):kY P σ t d lo hi mx=some r:=by
 unfold kY at hr ⊢;cases he:mA P t with
 | none=>rw[he] at hr;exact hr
 | some e =>
  rw[he] at hr;dsimp only at hr ⊢;cases hz:tsz? P e with
  | none=>rw[hz] at hr;cases hr
  | some z =>
   rw[hz] at hr;cases d with
   | own k =>
    dsimp only at hr ⊢;cases hk:σ₀ k with
    | none=>rw[hk] at hr;cases mx<;>cases hr
    | some b =>
     rw[hk] at hr;rw[h k b hk];cases hw0:jX σ₀ k z with
     | true=>rw[HD h hw0];rw[hw0] at hr;exact hr
     | false =>
      rw[hw0] at hr;cases hw1:jX σ k z with
      | false=>exact hr
      | true =>
       split at hr
       ·split at hr
        ·split at hr
         ·simp_all
         ·cases hr
        ·cases hr
       ·cases hr
   | bs k off len =>
    dsimp only at hr ⊢;cases hw0:jX σ₀ k z with
    | true=>rw[HD h hw0];rw[hw0] at hr;exact hr
    | false =>
     rw[hw0] at hr;cases hw1:jX σ k z with
     | false=>exact hr
     | true =>
      split at hr
      ·cases hr
      ·split at hr
       ·split at hr
        ·simp_all
        ·cases hr
       ·cases hr
   | _=>exact hr
def BF2 (h:EM σ₀ σ) {n:Nat} {s₀ s:Nat->D} {cg:Bool} {op:Op} {r:D} (hq:zV E op=true) (hr:qv P E n σ₀ s₀ s cg op=some r):qv P E n' σ s₀ s cg op=some r:=by
 unfold zV at hq;split at hq
 ·exact ALP h hr
 ·exact LG h hr
 ·exact ALR h hr
 ·rename_i f a b;cases f<;>exact hr
 ·exact hr
 ·exact AGN h hr
 ·simp only[qv] at hr ⊢;split at hq
  ·rename_i hc;simp only[hc] at hr ⊢;split at hr
   ·exact AVQ h hr
   ·cases hr
  ·simp_all
  ·simp_all
  ·rename_i f hc;simp only[hc] at hr ⊢;exact AJO h rfl hq hr
  ·cases hq
 ·rw[Y5 hq n' n σ σ₀];exact hr
end
def wZ (base:Nat) (σ:Nat->Option bE):Nat->Option bE:=λk=>match Nat.ble base k with
 | true=>none
 | false=>σ k
variable {base:Nat}{σ:Nat->Option bE}
def F8 {k:Nat} (h:k<base):wZ base σ k=σ k:=by
 unfold wZ;rw[show Nat.ble base k=false from Bool.eq_false_iff.2 λh'=>by have:=Nat.le_of_ble_eq_true h';omega]
def F7 {k:Nat} (h:base<=k):wZ base σ k=none:=by
 unfold wZ;rw[Nat.ble_eq_true_of_le h]
variable {σ':Nat->Option bE}
def AVT (h:∀ k x,k<base->σ' k=some x->σ k=some x):EM (wZ base σ') σ:=λk x hk=>by
 rcases Nat.lt_or_ge k base with hl|hg
 ·rw[F8 hl] at hk;exact h k x hl hk
 ·rw[F7 hg] at hk;cases hk
def ALV (h:∀ k x,k<base->σ' k=some x->σ k=some x):EM (wZ base σ') (wZ base σ):=λk x hk=>by
 rcases Nat.lt_or_ge k base with hl|hg
 ·rw[F8 hl] at hk ⊢;exact h k x hl hk
 ·rw[F7 hg] at hk;cases hk
def A60 (h:∀ k,k<base->σ' k=σ k):wZ base σ'=wZ base σ:=funext λk=>by
 rcases Nat.lt_or_ge k base with hl|hg
 ·rw[F8 hl,F8 hl,h k hl]
 ·rw[F7 hg,F7 hg]
inductive KD where|free|quiet|ask|alloc|new|app|mk|old|xA
def BLC (ops:Array Oper) (x:Operand):Bool:=match x with
 | .tmp t=>ops.toList.any λo=>match o.op with
  | .alloc _=>o.dst == some t
  | _=>false
 | _=>false
def BEX (ops:Array Oper):Bool:=ops.toList.all λo=>match o.op with
 | .alloc _=>false
 | _=>true
def bW (M:Bool) (E:Env) (ops:Array Oper) (o:Oper):KD:=match kW E o.op,zV E o.op,eF E o.op with
 | true,_,_=>.free
 | _,true,_=>.quiet
 | _,_,true=>.ask
 | _,_,_=>match o.op with
  | .alloc _=>match o.guard with
   | none=>.alloc
   | some _=>.xA
  | .store _ a _=>match o.guard with
   | none=>match BLC ops a||(M&&BEX ops) with
    | true=>.new
    | false=>.old
   | some _=>.xA
  | .call c=>match c.callee with
   | .builtin .append=>.app
   | .value (.func f)=>match E f with
    | some (.fresh _)=>.mk
    | some (.PL _)=>.mk
    | some (.dup _ _)=>.mk
    | some (.part _ _)=>.mk
    | _=>.xA
   | _=>.xA
  | _=>.xA
def BK4 (x:Option Fn):Prop:=(∃ g,x=some (.fresh g))\/(∃ g,x=some (.PL g))\/(∃ z y,x=some (.dup z y))\/∃ c g,x=some (.part c g)
def fZ (M:Bool) (P:Program) (E:Env) (ops:Array Oper) (base:Nat) (j:Nat) (o:Oper) (s:Nat->D) (σ:Nat->Option bE) (n:Nat):Option (D×(Nat->Option bE)×Nat) :=
 match bW M E ops o with
 | .free=>(gY P E ops n σ s o).map λd=>(d,σ,n)
 | .quiet=>(gY P E ops n (wZ base σ) s o).map λd=>(d,σ,n)
 | .alloc=>match o.op with
  | .alloc e=>((tz? P e).bind λz=>tK (z.cells.toList.map λv=>.p (.v v))).map λb=>(.ptr (base+j) 0 0,b8 σ (base+j) (some b),n)
  | _=>none
 | .new=>match o.op with
  | .store t a v=>match ev (cD true s) a with
   | .ptr k x y=>match decide (base<=k) with
    | true=>(kZ P σ t (.ptr k x y) (ev (cD true s) v)).map λσ'=>(.p (.v undef),σ',n)
    | false=>none
   | _=>none
  | _=>none
 | .ask=>(gY P E ops n σ s o).map λd=>(d,σ,n)
 | .app=>match gI ops s o with
  | some true=>match o.op with
   | .call c=>match c.args.toList,c.argTypes.toList with
    | [x,y],[t,u]=>(iX P σ n t u (ev (cD true s) x) (ev (cD true s) y)).map λr=>(r.1,r.2,n+1)
    | _,_=>none
   | _=>none
  | some false=>some (.p (.v undef),σ,n)
  | none=>none
 | .mk=>match gI ops s o with
  | some true=>nv P E σ (cD true s) n o.op
  | some false=>some (.p (.v undef),σ,n)
  | none=>none
 | .old=>match o.op with
  | .store t a v=>(kZ P σ t (ev (cD true s) a) (ev (cD true s) v)).map λσ'=>(.p (.v undef),σ',n)
  | _=>none
 | .xA=>match gI ops s o with
  | some true=>match nv P E σ (cD true s) n o.op with
   | some r=>match Nat.ble n r.2.2 with
    | true=>some r
    | false=>none
   | none=>none
  | some false=>some (.p (.v undef),σ,n)
  | none=>none
def gN (M:Bool) (P:Program) (E:Env) (nt:Nat) (ops:Array Oper) (base:Nat) (j:Nat) (o:Oper) (st:St):Option St :=
 (fZ M P E ops base j o st.s st.σ st.n).bind λx=>rN nt st o.dst x.1 x.2.1 x.2.2
def evD (M:Bool) (P:Program) (E:Env) (nt:Nat) (ops:Array Oper) (base:Nat):List Nat->St->Option St
 | [],st=>some st
 | k::r,st=>match ops[k]? with
  | some o=>(gN M P E nt ops base k o st).bind (evD M P E nt ops base r)
  | none=>none
section
variable {M : Bool} {cx : Cx} {nt : Nat} {E : Env} {ops : Array Oper} {base : Nat}
def nX {o:Oper}:(bW M E ops o = .free/\kW E o.op=true)\/(bW M E ops o = .quiet/\zV E o.op=true)\/bW M E ops o = .ask\/(bW M E ops o = .alloc/\o.guard=none/\∃ e,o.op = .alloc e) \/
  ((bW M E ops o = .new\/bW M E ops o = .old)/\o.guard=none/\∃ t a v,o.op = .store t a v)\/(bW M E ops o = .app/\∃ c,o.op = .call c/\c.callee = .builtin .append)\/bW M E ops o = .xA\/(bW M E ops o = .mk/\∃ c f,o.op = .call c/\c.callee = .value (.func f)/\BK4 (E f)):=by
 unfold bW;split
 ·simp_all
 ·simp_all
 ·simp
 ·split
  ·split
   ·simp_all
   ·simp
  ·split
   ·split
    ·simp_all
    ·simp_all
   ·simp
  ·rename_i c ho;split
   ·simp_all
   ·rename_i f hc;split
    ·rename_i g hg;exact .inr (.inr (.inr (.inr (.inr (.inr (.inr ⟨rfl,c,f,ho,hc,.inl ⟨g,hg⟩⟩))))))
    ·rename_i g hg;exact .inr (.inr (.inr (.inr (.inr (.inr (.inr ⟨rfl,c,f,ho,hc,.inr (.inl ⟨g,hg⟩)⟩))))))
    ·rename_i z y hg;exact .inr (.inr (.inr (.inr (.inr (.inr (.inr ⟨rfl,c,f,ho,hc,.inr (.inr (.inl ⟨z,y,hg⟩))⟩))))))
    ·rename_i z y hg;exact .inr (.inr (.inr (.inr (.inr (.inr (.inr ⟨rfl,c,f,ho,hc,.inr (.inr (.inr ⟨z,y,hg⟩))⟩))))))
    ·simp
   ·simp
  ·simp
def I1 {o:Oper} (h:bW M E ops o = .free):kW E o.op=true:=by
 rcases nX (M:=M) (E:=E) (ops:=ops) (o:=o) with h'|h'|h'|h'|⟨h'|h',_⟩|h'|h'|h'<;>simp_all
def wD {o:Oper} (h:bW M E ops o = .quiet):zV E o.op=true:=by
 rcases nX (M:=M) (E:=E) (ops:=ops) (o:=o) with h'|h'|h'|h'|⟨h'|h',_⟩|h'|h'|h'<;>simp_all
def rB {o:Oper} (h:bW M E ops o = .alloc):o.guard=none/\∃ e,o.op = .alloc e:=by
 rcases nX (M:=M) (E:=E) (ops:=ops) (o:=o) with h'|h'|h'|h'|⟨h'|h',_⟩|h'|h'|h'<;>simp_all
def P8 {o:Oper} (h:bW M E ops o = .new\/bW M E ops o = .old):o.guard=none/\∃ t a v,o.op = .store t a v:=by
 rcases nX (M:=M) (E:=E) (ops:=ops) (o:=o) with h'|h'|h'|h'|⟨h'|h',h''⟩|h'|h'|h'
 ·simp_all
 ·simp_all
 ·simp_all
 ·simp_all
 ·exact h''
 ·exact h''
 ·simp_all
 ·simp_all
 ·simp_all
def APF {o:Oper} (h:bW M E ops o = .mk):∃ c f,o.op = .call c/\c.callee = .value (.func f)/\BK4 (E f):=by
 rcases nX (M:=M) (E:=E) (ops:=ops) (o:=o) with h'|h'|h'|h'|⟨h'|h',_⟩|h'|h'|h'
 ·simp_all
 ·simp_all
 ·simp_all
 ·simp_all
 ·simp_all
 ·simp_all
 ·simp_all
 ·simp_all
 ·exact h'.2
def BEO {o:Oper} (h:bW M E ops o = .mk):eF E o.op=false:=by
 unfold bW at h
 grind
def A6L {o:Oper} (h:bW M E ops o = .ask):eF E o.op=true:=by
 unfold bW at h
 grind
def AE9 {o:Oper} (h:bW M E ops o = .app):∃ c,o.op = .call c/\c.callee = .builtin .append:=by
 rcases nX (M:=M) (E:=E) (ops:=ops) (o:=o) with h'|h'|h'|h'|⟨h'|h',_⟩|h'|h'|h'<;>simp_all
variable {P:Program}
def OZ {j:Nat} {o:Oper} {s s':Nat->D} {n:Nat} (h:∀ t∈o.looksAt ops,s t=s' t):fZ M P E ops base j o s σ n=fZ M P E ops base j o s' σ n:=by
 unfold fZ;have hs:∀ x∈o.op.operands,ev (cD true s) x=ev (cD true s') x:=λx hx=>E3 λt ht=>by
  subst ht;simp only[cD];rw[h t (by simp[Oper.looksAt];exact .inl ⟨.tmp t,by simpa using hx,rfl⟩)]
 cases bW M E ops o with
 | free=>simp only;rw[kH h]
 | quiet=>simp only;rw[kH h]
 | alloc=>rfl
 | new =>
  cases ho:o.op<;>try rfl
  rename_i t a v;rw[ho] at hs;simp only;rw[hs a (by simp[Op.operands]),hs v (by simp[Op.operands])]
 | ask=>simp only;rw[kH h]
 | app =>
  rw[nA h];cases gI ops s' o with
  | none=>rfl
  | some b =>
   cases b with
   | false=>rfl
   | true =>
    cases ho:o.op<;>try rfl
    rw[ho] at hs;simp only;split
    ·rename_i x y t u ha hat;rw[hs x (by simp[Op.operands,Call.operands,<-Array.mem_toList_iff,ha]),hs y (by simp[Op.operands,Call.operands,<-Array.mem_toList_iff,ha])]
    ·rfl
 | old =>
  cases ho:o.op<;>try rfl
  rename_i t a v;rw[ho] at hs;simp only;rw[hs a (by simp[Op.operands]),hs v (by simp[Op.operands])]
 | mk =>
  rw[nA h,QL hs]
 | xA =>
  rw[nA h,QL hs]
def AN0 {t:TypeId} {k x y:Nat} {v:D} (h:kZ P σ t (.ptr k x y) v=some σ'):∃ b,σ'=b8 σ k (some b):=by
 unfold kZ at h;simp only at h;split at h
 ·split at h
  ·split at h
   ·cases h;exact ⟨_,rfl⟩
   ·cases h
  ·cases h
 ·split at h
  ·split at h
   ·cases h;exact ⟨_,rfl⟩
   ·cases h
  ·cases h
 ·cases h
def p8 {j:Nat} {o:Oper} {s:Nat->D} {n:Nat} (h:bW M E ops o = .free):fZ M P E ops base j o s σ n=(gY P E ops n σ s o).map λd=>(d,σ,n):=by
 unfold fZ;rw[h]
def lW {j:Nat} {o:Oper} {s:Nat->D} {n:Nat} (h:bW M E ops o = .quiet):fZ M P E ops base j o s σ n=(gY P E ops n (wZ base σ) s o).map λd=>(d,σ,n):=by
 unfold fZ;rw[h]
def EY {j:Nat} {o:Oper} {s:Nat->D} {n:Nat} (h:bW M E ops o = .ask):fZ M P E ops base j o s σ n=(gY P E ops n σ s o).map λd=>(d,σ,n):=by
 unfold fZ;rw[h]
variable {n':Nat}
def UA {c:Call} {f:FuncId} (hc:c.callee = .value (.func f)) (hg:BK4 (E f)) {s:Nat->D} {n:Nat} {d:D} (h:nv P E σ s n (.call c)=some (d,σ',n')) :
  n'=n+1/\(∀ k,k≠n->σ' k=σ k):=by
 simp only[nv,hc,AB9] at h;split at h
 case h_2 =>
  rcases hg with ⟨g,hg⟩|⟨g,hg⟩|⟨z,y,hg⟩|⟨z,y,hg⟩<;>simp[qR,ev,jT,hg] at h
 rename_i r hcf;cases h;replace h:=hcf;clear hcf;unfold lC at h;rcases hg with ⟨g,hg⟩|⟨g,hg⟩|⟨z,y,hg⟩|⟨z,y,hg⟩
 ·simp only[ev,jT,hg] at h;split at h
  ·split at h
   ·split at h
    ·cases h;exact ⟨rfl,λ_ _=>rfl⟩
    ·cases h;exact ⟨rfl,λk hk=>bL _ _ hk⟩
   ·cases h
  ·split at h
   ·split at h
    ·split at h
     ·cases h;exact ⟨rfl,λk hk=>bL _ _ hk⟩
     ·cases h
    ·cases h
   ·cases h
 ·simp only[ev,jT,hg] at h;split at h
  ·split at h
   ·cases h;exact ⟨rfl,λ_ _=>rfl⟩
   ·split at h
    ·cases h;exact ⟨rfl,λk hk=>bL _ _ hk⟩
    ·cases h
   ·cases h
  ·cases h
 ·simp only[ev,jT,hg] at h;unfold DU at h;split at h
  ·split at h
   ·split at h
    ·cases h;exact ⟨rfl,λk hk=>bL _ _ hk⟩
    ·cases h
   ·cases h
  ·split at h
   ·split at h
    ·cases h;exact ⟨rfl,λk hk=>bL _ _ hk⟩
    ·cases h
   ·cases h
  ·cases h
 ·simp only[ev,jT,hg] at h;split at h
  ·split at h
   ·split at h
    ·cases h;exact ⟨rfl,λk hk=>bL _ _ hk⟩
    ·cases h
   ·cases h
  ·cases h
def EZ {j:Nat} {o:Oper} {s:Nat->D} {n:Nat} {d:D} (hb:base<=n) (hk:bW M E ops o = .quiet\/bW M E ops o = .alloc\/bW M E ops o = .new\/bW M E ops o = .mk) (h:fZ M P E ops base j o s σ n=some (d,σ',n')):∀ k,k<base->σ' k=σ k:=by
 unfold fZ at h;rcases hk with hk|hk|hk|hk
 ·rw[hk] at h;simp only[aa,Prod.mk.injEq] at h;obtain ⟨_,_,_,rfl,rfl⟩:=h;exact λ_ _=>rfl
 ·rw[hk] at h;simp only at h;split at h
  ·simp only[aa,Prod.mk.injEq] at h;obtain ⟨_,_,_,rfl,rfl⟩:=h;exact λk hk=>bL _ _ (by omega)
  ·cases h
 ·rw[hk] at h;simp only at h;split at h
  ·split at h
   ·split at h
    ·rename_i hb;have hb:=of_decide_eq_true hb;simp only[aa,Prod.mk.injEq] at h;obtain ⟨σ'',h1,_,rfl,rfl⟩:=h;obtain ⟨b,rfl⟩:=AN0 h1;exact λk hk=>bL _ _ (by omega)
    ·cases h
   ·cases h
  ·cases h
 ·obtain ⟨c,f,ho,hc,hg⟩:=APF hk;rw[hk] at h;simp only at h;split at h
  ·rw[ho] at h;obtain ⟨_,h2⟩:=UA hc hg h;exact λk hk=>h2 k (by omega)
  ·cases h;exact λ_ _=>rfl
  ·cases h
def AB1 {n:Nat} {t u:TypeId} {s x d:D} (hn:base<=n) (h:iX P σ n t u s x=some (d,σ')):∀ k b,k<base->σ' k=some b->σ k=some b:=by
 have key:∀ (k₀:Nat) (b0:Option bE),∀ k b,k<base->b8 (b8 σ k₀ none) n b0 k=some b->σ k=some b:=λk₀ b0 k b hk hb=>by
  rw[bL _ _ (by omega)] at hb;by_cases e:k=k₀
  ·simp_all
  ·rw[bL _ _ e] at hb;exact hb
 have key1:∀ (b0:Option bE),∀ k b,k<base->b8 σ n b0 k=some b->σ k=some b:=λb0 k b hk hb=>by
  rw[bL _ _ (by omega)] at hb;exact hb
 unfold iX at h;split at h
 ·split at h
  ·split at h
   ·split at h
    ·split at h
     ·split at h
      ·split at h
       ·cases h;exact key1 _
       ·cases h
      ·split at h
       ·simp_all
       ·split at h
        ·cases h;exact key1 _
        ·cases h
      ·cases h
     ·split at h
      ·split at h
       ·cases h;exact key _ _
       ·cases h
      ·cases h
     ·cases h
    ·cases h
   ·cases h
  ·cases h
 ·unfold vH at h;split at h
  ·split at h
   ·split at h
    ·split at h
     ·split at h
      ·split at h
       ·cases h;exact key _ _
       ·cases h
      ·cases h
     ·split at h
      ·split at h
       ·simp_all
       ·simp_all
      ·cases h
     ·cases h
    ·cases h
   ·cases h
  ·cases h
def A3P {j:Nat} {o:Oper} {s:Nat->D} {n:Nat} {d:D} (hk:bW M E ops o = .app) (hn:base<=n) (h:fZ M P E ops base j o s σ n=some (d,σ',n')):∀ k b,k<base->σ' k=some b->σ k=some b:=by
 unfold fZ at h;rw[hk] at h;simp only at h;split at h
 ·split at h
  ·split at h
   ·simp only[aa,Prod.mk.injEq] at h;obtain ⟨⟨d',σ''⟩,h1,_,rfl,rfl⟩:=h;exact AB1 hn h1
   ·cases h
  ·cases h
 ·simp_all
 ·cases h
def BJG {j:Nat} {o:Oper} {s:Nat->D} {n:Nat} {d:D} (h:fZ M P E ops base j o s σ n=some (d,σ',n')):n<=n':=by
 unfold fZ at h;cases hk:bW M E ops o with
 | free=>rw[hk] at h;simp only[aa,Prod.mk.injEq] at h;obtain ⟨_,_,_,_,rfl⟩:=h;exact ak _
 | quiet=>rw[hk] at h;simp only[aa,Prod.mk.injEq] at h;obtain ⟨_,_,_,_,rfl⟩:=h;exact ak _
 | ask=>rw[hk] at h;simp only[aa,Prod.mk.injEq] at h;obtain ⟨_,_,_,_,rfl⟩:=h;exact ak _
 | alloc =>
  rw[hk] at h;simp only at h;split at h
  ·simp only[aa,Prod.mk.injEq] at h;obtain ⟨_,_,_,_,rfl⟩:=h;exact ak _
  ·cases h
 | new =>
  rw[hk] at h;simp only at h;split at h
  ·split at h
   ·split at h
    ·simp only[aa,Prod.mk.injEq] at h;obtain ⟨_,_,_,_,rfl⟩:=h;exact ak _
    ·cases h
   ·cases h
  ·cases h
 | app =>
  rw[hk] at h;simp only at h;split at h
  ·split at h
   ·split at h
    ·simp only[aa,Prod.mk.injEq] at h;obtain ⟨_,_,_,_,rfl⟩:=h;exact Nat.le_succ _
    ·cases h
   ·cases h
  ·simp_all
  ·cases h
 | mk =>
  obtain ⟨c,f,ho,hc,hg⟩:=APF hk;rw[hk] at h;simp only at h;split at h
  ·rw[ho] at h;obtain ⟨h1,_⟩:=UA hc hg h;omega
  ·simp_all
  ·cases h
 | old =>
  rw[hk] at h;simp only at h;split at h
  ·simp only[aa,Prod.mk.injEq] at h;obtain ⟨_,_,_,_,rfl⟩:=h;exact ak _
  ·cases h
 | xA =>
  rw[hk] at h;simp only at h;split at h
  ·split at h
   ·split at h
    ·simp_all
    ·cases h
   ·cases h
  ·simp_all
  ·cases h
variable {σ₀:Nat->Option bE}
def D4 (h:EM σ₀ σ) {n:Nat} {s:Nat->D} {o:Oper} {d:D} (hq:zV E o.op=true) (hr:gY P E ops n σ₀ s o=some d):gY P E ops n' σ s o=some d:=by
 unfold gY at hr ⊢;split at hr
 ·cases hr
 ·omega
 ·exact BF2 h hq hr
def QX {n:Nat} {s:Nat->D} {o:Oper} (hf:kW E o.op=true):gY P E ops n σ s o=gY P E ops n' σ₀ s o:=by
 unfold gY;cases gI ops s o with
 | none=>rfl
 | some c=>cases c<;>simp only[Y5 hf n n' σ σ₀]
variable {st st':St}{ρ:Nat->Option Loc}{K:Act->World->Prop}
def AGQ {j:Nat} (hE:aQ cx.P E) {a:Act} {w:World} (h:Rel cx nt ρ st a w) {o:Oper} (hjs:j<ops.size) (hjn:base+ops.size<=st.n) (hfree:bW M E ops o = .alloc->ρ (base+j)=none) (hs:gN M cx.P E nt ops base j o st=some st') {Q:Exit->Act->World->Prop}
  (hK:∀ ρ' a' w',Rel cx nt ρ' st' a' w'->(bW M E ops o≠.xA->bW M E ops o≠.mk->∀ i,i<base+ops.size->i≠base+j->ρ' i=ρ i)->K a' w'):if Region.wanted o (yielded ops a.tmps) then o.wp cx.P a w K Q else K (a.put o.dst undef) w:=by
 unfold gN at hs;simp only[Option.bind_eq_some_iff] at hs;obtain ⟨⟨d,σ',n'⟩,he,hp⟩:=hs;have quiet:∀ d',gY cx.P E ops st.n st.σ st.s o=some d'->(d',st.σ,st.n)=(d,σ',n')->if Region.wanted o (yielded ops a.tmps) then o.wp cx.P a w K Q else K (a.put o.dst undef) w:=by
  intro d' hq he;cases he;unfold gY at hq;split at hq
  ·cases hq
  ·rename_i hc;rw[eJ h hc];cases hq;exact hK ρ _ w (eZ h hp h.inv (bO.refl _ _ _ _) (.p _ _ (.v _))) λ_ _ _ _ _=>rfl
  ·rename_i hc;rw[eJ h hc];refine BHJ hE h.inv h.pR h.ev0 (h.evS) hq λv w' hb hv=>hK ρ _ w' ?_ λ_ _ _ _ _=>rfl;exact eZ h hp (h.inv.grow hb (ak _)) (bO.gM hb) hv
 have store:∀ {t:TypeId} {x y:Operand} {σ'':Nat->Option bE},o.guard=none->o.op = .store t x y->kZ cx.P st.σ t (ev (cD true st.s) x) (ev (cD true st.s) y)=some σ''->((.p (.v undef):D),σ'',st.n)=(d,σ',n')->if Region.wanted o (yielded ops a.tmps) then o.wp cx.P a w K Q else K (a.put o.dst undef) w:=by
  intro t x y σ'' hg ho hst he;cases he;have hw:Region.wanted o (yielded ops a.tmps)=true:=by simp[Region.wanted,hg]
  rw[hw];obtain ⟨w',h1,h2,h3⟩:=VP h.inv (h.evS x) (h.evS y) hst;unfold Oper.wp;have hx:(execOp a.eval o).run cx.P w = .ok .skip w':=by
   simp only[execOp,ho,Sem.run_bind,h1,Result.andThen_ok,Sem.run_pure]
  rw[hx];exact hK ρ _ w' (eZ h hp h2 h3 (v:=undef) (.p _ _ (.v _))) λ_ _ _ _ _=>rfl
 cases hk:bW M E ops o with
 | free =>
  rw[p8 hk] at he;simp only[aa] at he;obtain ⟨d',hq,he⟩:=he;simp_all
 | quiet =>
  rw[lW hk] at he;simp only[aa] at he;obtain ⟨d',hq,he⟩:=he;exact quiet d' (D4 (AVT λ_ _ _ h=>h) (wD hk) hq) he
 | alloc =>
  obtain ⟨hg,e,ho⟩:=rB hk;unfold fZ at he;rw[hk] at he;simp only[ho] at he;have hw:Region.wanted o (yielded ops a.tmps)=true:=by simp[Region.wanted,hg]
  rw[hw];simp only[aa,Option.bind_eq_some_iff,Prod.mk.injEq] at he;obtain ⟨b,⟨z,hz,hb⟩,rfl,rfl,rfl⟩:=he;obtain ⟨ρ',h0,h1,h2,h3,h4⟩:=K2 h.inv (n':=st.n) (k:=base+j) (ak _) (by omega) (λi l' hi e=>by subst e;rw[hfree hk] at hi;cases hi) (dF.vs (R:=Rd w (Own cx ρ st.σ) ρ) (g:=λv=>.p (.v v)) (λv=>.p _ _ (.v v)) z.cells) hb e;unfold Oper.wp;have hx:(execOp a.eval o).run cx.P w = .ok (.value (.pointer (some ⟨w.heap.size,0,none⟩))) (w.alloc (.cells z.cells e)):=by
   simp only[execOp,ho,Instr.alloc,Sem.run_bind,run_zero? w hz,Result.andThen_ok,newVar,h1,Sem.run_pure]
  rw[hx];exact hK ρ' _ _ (eZ h hp h2 h3 h4) λ_ _ i _ hi=>h0 i hi
 | new =>
  obtain ⟨hg,t,x,y,ho⟩:=P8 (.inl hk);unfold fZ at he;rw[hk] at he;simp only[ho] at he;split at he
  ·split at he
   ·simp only[aa] at he;obtain ⟨σ'',hst,he⟩:=he;simp_all
   ·cases he
  ·cases he
 | old =>
  obtain ⟨hg,t,x,y,ho⟩:=P8 (.inr hk);unfold fZ at he;rw[hk] at he;simp only[ho,aa] at he;obtain ⟨σ'',hst,he⟩:=he;simp_all
 | ask =>
  rw[EY hk] at he;simp only[aa] at he;obtain ⟨d',hq,he⟩:=he;simp_all
 | app =>
  obtain ⟨c,ho,hc⟩:=AE9 hk;unfold fZ at he;rw[hk] at he;simp only at he;split at he
  ·rename_i hg;rw[eJ h hg];simp only[ho] at he;split at he
   ·rename_i x y t u ha hat;simp only[aa] at he;obtain ⟨⟨d',σ''⟩,h5,he⟩:=he;cases he;have ex:c.args = #[x,y]:=by rw[<-Array.toList_inj];exact ha
    have et:c.argTypes = #[t,u]:=by rw[<-Array.toList_inj];exact hat
    obtain ⟨v,w',ρ',h0,h1,h2,h3,h4⟩:=KE (ty:=o.type) h.inv (ak _) (h.evS x) (h.evS y) h5;have hx:(execOp a.eval o).run cx.P w = .ok (.value v) w':=by
     simp[execOp,ho,resolve,hc,ex,et,invoke,builtin,h1]
    unfold Oper.wp;rw[hx];exact hK ρ' _ w' (eZ h hp h2 h3 h4) λ_ _ i hi _=>h0 i (by omega)
   ·cases he
  ·rename_i hg;rw[eJ h hg];cases he;exact hK ρ _ w (eZ h hp h.inv (bO.refl _ _ _ _) (.p _ _ (.v _))) λ_ _ _ _ _=>rfl
  ·cases he
 | mk =>
  unfold fZ at he;rw[hk] at he;simp only at he;split at he
  ·rename_i hg;rw[eJ h hg];refine A7H hE h.inv h.pR h.evS he λv w' ρ' hi hkp hv=>hK ρ' _ w' (eZ h hp hi hkp hv) λ_ hn=>absurd hk hn
  ·rename_i hg;rw[eJ h hg];cases he;exact hK ρ _ w (eZ h hp h.inv (bO.refl _ _ _ _) (.p _ _ (.v _))) λ_ _ _ _ _=>rfl
  ·cases he
 | xA =>
  unfold fZ at he;rw[hk] at he;simp only at he;split at he
  ·rename_i hg;rw[eJ h hg];split at he
   ·rename_i r hr;split at he
    ·cases he;refine A7H hE h.inv h.pR h.evS hr λv w' ρ' hi hkp hv=>hK ρ' _ w' (eZ h hp hi hkp hv) λhn _=>absurd hk hn
    ·cases he
   ·cases he
  ·rename_i hg;rw[eJ h hg];cases he;exact hK ρ _ w (eZ h hp h.inv (bO.refl _ _ _ _) (.p _ _ (.v _))) λ_ _ _ _ _=>rfl
  ·cases he
def SK (M:Bool) (P:Program) (E:Env) (nt:Nat) (ops:Array Oper) (base:Nat) (Q:St->Prop):Nat->Array Bool->St->Prop
 | 0,listed,st=>Region.ready .any ops listed=[]/\Q st
 | f+1,listed,st=>(Region.ready .any ops listed=[]->Q st)/\∀ i∈Region.ready .any ops listed,∃ o st',ops[i]? = some o/\gN M P E nt ops base i o st=some st'/\SK M P E nt ops base Q f (listed.setIfInBounds i true) st'
def wR {j:Nat} {o:Oper} (h:gN M P E nt ops base j o st=some st'):st.n<=st'.n:=by
 unfold gN at h;simp only[Option.bind_eq_some_iff] at h;obtain ⟨⟨d,σ',n'⟩,he,hp⟩:=h;obtain ⟨_,rfl⟩:=sK hp;exact BJG he
def AVV (M:Bool) (E:Env) (ops:Array Oper):Bool:=(ops.toList.all λo=>match bW M E ops o with
  | .xA=>false
  | .mk=>false
  | _=>true)||(ops.toList.all λo=>match bW M E ops o with
  | .alloc=>false
  | _=>true)
def AVW (h:AVV M E ops=true):(∀ (i:Nat) (o:Oper),ops[i]? = some o->bW M E ops o≠.xA/\bW M E ops o≠.mk)\/(∀ (i:Nat) (o:Oper),ops[i]? = some o->bW M E ops o≠.alloc):=by
 unfold AVV at h;simp only[Bool.or_eq_true,all_eq_true] at h;rcases h with h|h
 ·exact .inl λi o ho=>⟨λhk=>(by have:=h o (by rw[Array.mem_toList_iff];exact Array.mem_of_getElem? ho);rw[hk] at this;cases this),λhk=>(by have:=h o (by rw[Array.mem_toList_iff];exact Array.mem_of_getElem? ho);rw[hk] at this;cases this)⟩
 ·exact .inr λi o ho hk=>by have:=h o (by rw[Array.mem_toList_iff];exact Array.mem_of_getElem? ho);rw[hk] at this;cases this
def LV (hmx:AVV M E ops=true) (hE:aQ cx.P E) {Q:St->Prop} {Q':Exit->Act->World->Prop} (hQ:∀ st ρ a w,Q st->Rel cx nt ρ st a w->Q' .normal a w):∀ (f:Nat) (listed:Array Bool) (st:St) (ρ:Nat->Option Loc) (a:Act) (w:World),Rel cx nt ρ st a w ->
  listed.size=ops.size->base+ops.size<=st.n->((∀ (i:Nat) (o:Oper),ops[i]? = some o->bW M E ops o≠.xA/\bW M E ops o≠.mk)->∀ i,i<ops.size->(∃ o,ops[i]? = some o/\bW M E ops o = .alloc)->listed.getD i true=false->ρ (base+i)=none)->SK M cx.P E nt ops base Q f listed st->wpAny cx.P .any ops Q' f listed a w
 | 0,_,st,ρ,a,w,hr,_,_,_,h=>⟨h.1,hQ st ρ a w h.2 hr⟩
 | f+1,listed,st,ρ,a,w,hr,hsz,hn,hfr,h=>by
  refine ⟨λh0=>hQ st ρ a w (h.1 h0) hr,λi hi=>?_⟩;obtain ⟨o,st',h0,h1,h2⟩:=h.2 i hi;have hil:i<ops.size:=(Array.getElem?_eq_some_iff.1 h0).1;have hun:=(mem_ready.1 hi).1;have hun':listed.getD i true=false:=hun;unfold wpOp;simp only[h0];have:=AGQ (Q:=Q') hE hr hil hn (λhka=>by
   rcases AVW hmx with hl|ha
   ·exact hfr hl i hil ⟨o,h0,hka⟩ hun'
   ·exact absurd hka (ha i o h0)) h1 (K:=wpAny cx.P .any ops Q' f (listed.setIfInBounds i true)) (λρ' a' w' hr' hρ=>LV hmx hE hQ f _ st' ρ' a' w' hr' (by simpa using hsz) (Nat.le_trans hn (wR h1)) (λhl k hk hka hkl=>by
   have hki:k≠i:=by
    rintro rfl;simp_all
   rw[getD_set_ne true (Ne.symm hki)] at hkl;rw[hρ (hl i o h0).1 (hl i o h0).2 _ (by omega) (by omega)];exact hfr hl k hk hka hkl) h2)
  split
  ·simp_all
  ·simp_all
def W5:KD->KD->Bool
 | .free,_=>true
 | _,.free=>true
 | .quiet,.quiet=>true
 | .quiet,.ask=>true
 | .ask,.quiet=>true
 | .ask,.ask=>true
 | .quiet,.alloc=>true
 | .quiet,.new=>true
 | .quiet,.mk=>true
 | .mk,.quiet=>true
 | .alloc,.quiet=>true
 | .new,.quiet=>true
 | .app,.quiet=>true
 | .alloc,.alloc=>true
 | _,_=>false
def U8 (M:Bool) (E:Env) (ops:Array Oper) (ms:List Nat) (k j:Nat):Bool :=
 (ms.getD j 0).testBit k||(match ops[k]?,ops[j]? with
  | some a,some b=>a.apart ops b&&W5 (bW M E ops a) (bW M E ops b)
  | _,_=>false)
def rD (M:Bool) (E:Env) (ops:Array Oper) (ms:List Nat):List Nat->Array Bool->Bool
 | [],listed=>(Region.ready .any ops listed).isEmpty
 | k::l,listed=>(Region.ready .any ops listed).contains k&&(range ops.size).all (λj=>decide (j=k)||listed.getD j true||U8 M E ops ms k j)&&rD M E ops ms l (listed.setIfInBounds k true)
def isApp (M:Bool) (E:Env) (ops:Array Oper) (j:Nat):Bool:=match ops[j]? with
 | some o=>match bW M E ops o with
  | .app=>true
  | _=>false
 | none=>false
def ES (M:Bool) (E:Env) (ops:Array Oper):List Nat:=match (range ops.size).filter (isApp M E ops) with
 | []=>range ops.size
 | js=>(λms:List Nat=>(range ops.size).filter (λk=>js.any λj=>decide (j=k)||(ms.getD j 0).testBit k)++(range ops.size).filter (λk=>!js.any λj=>decide (j=k)||(ms.getD j 0).testBit k)) (w3 ops.toList [])
def tG (M:Bool) (E:Env) (ops:Array Oper):Bool:=AVV M E ops&&decide ((ES M E ops).length=ops.size)&&rD M E ops (w3 ops.toList []) (ES M E ops) (Array.replicate ops.size false)
variable {oi:Oper}
def BG6 {i j:Nat} {oj:Oper} {st₁ st₂:St} (hb:base<=st.n) (hij:i≠j) (hap:oi.apart ops oj=true) (hal:W5 (bW M E ops oi) (bW M E ops oj)=true)
  (h1:gN M P E nt ops base i oi st=some st₁) (h2:gN M P E nt ops base j oj st₁=some st₂):∃ st₃,gN M P E nt ops base j oj st=some st₃/\gN M P E nt ops base i oi st₃=some st₂:=by
 obtain ⟨a1,a2,a3⟩:=Oper.apart_spec hap;unfold gN at h1 h2;rw[Option.bind_eq_some_iff] at h1 h2;obtain ⟨⟨di,σi,ni⟩,e1,p1⟩:=h1;obtain ⟨⟨dj,σj,nj⟩,e2,p2⟩:=h2;obtain ⟨l1,rfl⟩:=sK p1;obtain ⟨l2,rfl⟩:=sK p2;have c2:∀ σ n,fZ M P E ops base j oj (tJ st.s oi.dst di) σ n=fZ M P E ops base j oj st.s σ n:=λσ n=>OZ λu hu=>by
  cases hd:oi.dst with
  | none=>rfl
  | some t=>exact bL _ _ (λ(eq:u=t)=>a1 t hd (by rw[<-eq];exact hu))
 have cs:∀ u∈oi.looksAt ops,tJ st.s oj.dst dj u=st.s u:=λu hu=>by
  cases hd:oj.dst with
  | none=>rfl
  | some t=>exact bL _ _ (λ(eq:u=t)=>a3 t hd (by rw[<-eq];exact hu))
 have c1:∀ σ n,fZ M P E ops base i oi (tJ st.s oj.dst dj) σ n=fZ M P E ops base i oi st.s σ n:=λσ n=>OZ cs;have cu:∀ (σ:Nat->Option bE) (n:Nat),(⟨tJ (tJ st.s oj.dst dj) oi.dst di,σ,n⟩:St)=⟨tJ (tJ st.s oi.dst di) oj.dst dj,σ,n⟩:=by
  intro σ n;cases hdi:oi.dst with
  | none=>rfl
  | some t =>
   cases hdj:oj.dst with
   | none=>rfl
   | some t' =>
    simp only[tJ];rw[HC _ _ _ (λ(eq:t'=t)=>a2 t hdi (eq ▸ hdj))]
 rw[c2] at e2;have core:∃ σj' nj',fZ M P E ops base j oj st.s st.σ st.n=some (dj,σj',nj')/\fZ M P E ops base i oi st.s σj' nj'=some (di,σj,nj):=by
  have free_i:bW M E ops oi = .free->∃ σj' nj',fZ M P E ops base j oj st.s st.σ st.n=some (dj,σj',nj')/\fZ M P E ops base i oi st.s σj' nj'=some (di,σj,nj):=λhk=>by
   rw[p8 hk] at e1;simp only[aa,Prod.mk.injEq] at e1;obtain ⟨d,g1,rfl,rfl,rfl⟩:=e1;refine ⟨σj,nj,e2,?_⟩;rw[p8 hk,QX (σ₀:=st.σ) (n':=st.n) (I1 hk),g1];rfl
  have free_j:bW M E ops oj = .free->∃ σj' nj',fZ M P E ops base j oj st.s st.σ st.n=some (dj,σj',nj')/\fZ M P E ops base i oi st.s σj' nj'=some (di,σj,nj):=λhk=>by
   rw[p8 hk] at e2;simp only[aa,Prod.mk.injEq] at e2;obtain ⟨d,g1,rfl,rfl,rfl⟩:=e2;refine ⟨st.σ,st.n,?_,e1⟩;rw[p8 hk,QX (σ₀:=σi) (n':=ni) (I1 hk),g1];rfl
  have quiet_i:bW M E ops oi = .quiet->(bW M E ops oj = .quiet\/bW M E ops oj = .alloc\/bW M E ops oj = .new\/bW M E ops oj = .mk)->∃ σj' nj',fZ M P E ops base j oj st.s st.σ st.n=some (dj,σj',nj')/\fZ M P E ops base i oi st.s σj' nj'=some (di,σj,nj):=λhk hkj=>by
   rw[lW hk] at e1;simp only[aa,Prod.mk.injEq] at e1;obtain ⟨d,g1,rfl,rfl,rfl⟩:=e1;have hlow:=EZ hb hkj e2;refine ⟨σj,nj,e2,?_⟩;rw[lW hk,A60 hlow,D4 (λ_ _ h=>h) (wD hk) g1];rfl
  have quiet_j:bW M E ops oj = .quiet->(∀ k b,k<base->σi k=some b->st.σ k=some b)->∃ σj' nj',fZ M P E ops base j oj st.s st.σ st.n=some (dj,σj',nj')/\fZ M P E ops base i oi st.s σj' nj'=some (di,σj,nj):=λhk hsub=>by
   rw[lW hk] at e2;simp only[aa,Prod.mk.injEq] at e2;obtain ⟨d,g1,rfl,rfl,rfl⟩:=e2;refine ⟨st.σ,st.n,?_,e1⟩;rw[lW hk,D4 (ALV hsub) (wD hk) g1];rfl
  have ask_j:bW M E ops oj = .ask->σi=st.σ->ni=st.n->∃ σj' nj',fZ M P E ops base j oj st.s st.σ st.n=some (dj,σj',nj')/\fZ M P E ops base i oi st.s σj' nj'=some (di,σj,nj):=λhk es en=>by
   subst es;subst en;have e2':=e2;rw[EY hk] at e2;simp only[aa,Prod.mk.injEq] at e2;obtain ⟨d,g1,rfl,rfl,rfl⟩:=e2;exact ⟨st.σ,st.n,e2',e1⟩
  have stay:bW M E ops oi = .quiet\/bW M E ops oi = .ask->σi=st.σ/\ni=st.n:=λhk=>by
   rcases hk with hk|hk
   ·rw[lW hk] at e1;simp only[aa,Prod.mk.injEq] at e1;obtain ⟨d,g1,rfl,rfl,rfl⟩:=e1;simp
   ·rw[EY hk] at e1;simp only[aa,Prod.mk.injEq] at e1;obtain ⟨d,g1,rfl,rfl,rfl⟩:=e1;simp
  cases hki:bW M E ops oi with
  | free=>exact free_i hki
  | ask =>
   obtain ⟨es,en⟩:=stay (.inr hki);cases hkj:bW M E ops oj with
   | free=>exact free_j hkj
   | quiet=>exact quiet_j hkj λk b _ h=>by rw[<-es];exact h
   | ask=>exact ask_j hkj es en
   | _=>rw[hki,hkj] at hal;cases hal
  | quiet =>
   cases hkj:bW M E ops oj with
   | free=>exact free_j hkj
   | quiet=>exact quiet_i hki (.inl hkj)
   | ask=>exact ask_j hkj (stay (.inl hki)).1 (stay (.inl hki)).2
   | alloc=>exact quiet_i hki (.inr (.inl hkj))
   | new=>exact quiet_i hki (.inr (.inr (.inl hkj)))
   | mk=>exact quiet_i hki (.inr (.inr (.inr hkj)))
   | _=>rw[hki,hkj] at hal;cases hal
  | alloc =>
   cases hkj:bW M E ops oj with
   | free=>exact free_j hkj
   | quiet =>
    have hlow:=EZ hb (.inr (.inl hki)) e1;simp_all
   | alloc =>
    obtain ⟨_,e,q3⟩:=rB hki;obtain ⟨_,e',r3⟩:=rB hkj;have ei:∀ σ n,fZ M P E ops base i oi st.s σ n=((tz? P e).bind λz=>tK (z.cells.toList.map λv=>.p (.v v))).map λb=>(.ptr (base+i) 0 0,b8 σ (base+i) (some b),n):=λσ n=>by unfold fZ;rw[hki];simp only[q3]
    have ej:∀ σ n,fZ M P E ops base j oj st.s σ n=((tz? P e').bind λz=>tK (z.cells.toList.map λv=>.p (.v v))).map λb=>(.ptr (base+j) 0 0,b8 σ (base+j) (some b),n):=λσ n=>by unfold fZ;rw[hkj];simp only[r3]
    rw[ei] at e1;rw[ej] at e2;simp only[aa,Prod.mk.injEq] at e1 e2;obtain ⟨bi,g1,rfl,rfl,rfl⟩:=e1;obtain ⟨bj,g2,rfl,rfl,rfl⟩:=e2;refine ⟨b8 st.σ (base+j) (some bj),st.n,?_,?_⟩
    ·simp_all
    ·rw[ei,g1];simp only[Option.map_some];rw[HC _ _ _ (show base+j≠base+i by omega)]
   | _=>rw[hki,hkj] at hal;cases hal
  | new =>
   cases hkj:bW M E ops oj with
   | free=>exact free_j hkj
   | quiet =>
    have hlow:=EZ hb (.inr (.inr (.inl hki))) e1;simp_all
   | _=>rw[hki,hkj] at hal;cases hal
  | mk =>
   cases hkj:bW M E ops oj with
   | free=>exact free_j hkj
   | quiet =>
    have hlow:=EZ hb (.inr (.inr (.inr hki))) e1;simp_all
   | _=>rw[hki,hkj] at hal;cases hal
  | app =>
   cases hkj:bW M E ops oj with
   | free=>exact free_j hkj
   | quiet=>exact quiet_j hkj (A3P hki hb e1)
   | _=>rw[hki,hkj] at hal;cases hal
  | old =>
   cases hkj:bW M E ops oj with
   | free=>exact free_j hkj
   | _=>rw[hki,hkj] at hal;cases hal
  | xA =>
   cases hkj:bW M E ops oj with
   | free=>exact free_j hkj
   | _=>rw[hki,hkj] at hal;cases hal
 obtain ⟨σj',nj',k1,k2⟩:=core;refine ⟨⟨tJ st.s oj.dst dj,σj',nj'⟩,?_,?_⟩
 ·unfold gN;rw[k1];exact wF l2
 ·unfold gN;rw[c1,k2];refine (wF l1).trans ?_;simp_all
def OB {Q:St->Prop} {i:Nat} (hi:ops[i]? = some oi) :
  ∀ (f:Nat) (listed:Array Bool) (st st₁:St),qL ops listed->base<=st.n ->
   (∀ j oj,ops[j]? = some oj->j≠i->listed.getD j true=false->Reach ops j i\/(W5 (bW M E ops oi) (bW M E ops oj)=true/\oi.apart ops oj=true)) ->
   i∈Region.ready .any ops listed->gN M P E nt ops base i oi st=some st₁ ->
   SK M P E nt ops base Q f (listed.setIfInBounds i true) st₁->SK M P E nt ops base Q (f+1) listed st:=by
 intro f
 induction f with
 | zero =>
  intro listed st st₁ _ _ _ hr hs H;refine ⟨λh=>(by rw[h] at hr;cases hr),λj hj=>?_⟩;by_cases hji:j=i
  ·simp_all
  ·have:=ready_mono hj hji;rw[H.1] at this;cases this
 | succ f ih =>
  intro listed st st₁ hc hb hfree hr hs H;refine ⟨λh=>(by rw[h] at hr;cases hr),λj hj=>?_⟩;by_cases hji:j=i
  ·simp_all
  ·obtain ⟨oj,st₂,hoj,h2,H2⟩:=H.2 j (ready_mono hj hji);obtain ⟨hjun,oj',hoj',hall⟩:=mem_ready.1 hj;rw[hoj] at hoj';cases hoj';have hiun:=(mem_ready.1 hr).1;rcases hfree j oj hoj hji hjun with hre|⟨hal,hap⟩
   ·have:=hre.listed hc (λo ho e he hb=>by rw[hoj] at ho;cases ho;exact hall e he hb);rcases Nat.lt_or_ge i listed.size with h'|h'
    ·simp_all
    ·simp_all
   ·obtain ⟨st₃,h3,h4⟩:=BG6 hb (Ne.symm hji) hap hal hs h2;refine ⟨oj,st₃,hoj,h3,ih (listed.setIfInBounds j true) st₃ st₂ (iZ hc hj) (Nat.le_trans hb (wR h3)) (λk ok hk hki hun=>?_) (ready_mono hr (Ne.symm hji)) h4 ?_⟩
    ·by_cases hjk:j=k
     ·simp_all
     ·simp_all
    ·rw[Array.setIfInBounds_comm _ _ hji];exact H2
def OC {P:Program} {Q:St->Prop} {ms:List Nat} (hms:∀ j i,(ms.getD j 0).testBit i=true->Reach ops j i) {st':St} (hQ:Q st'):∀ (l:List Nat) (listed:Array Bool) (st:St),qL ops listed->base<=st.n ->
  rD M E ops ms l listed=true->evD M P E nt ops base l st=some st'->SK M P E nt ops base Q l.length listed st
 | [],_,_,_,_,hB,h=>by
  cases h;exact ⟨by simpa [rD] using hB,hQ⟩
 | k::l,listed,st,hc,hb,hB,h=>by
  simp only[List.length_cons,rD,ac] at hB;obtain ⟨⟨hr,hf⟩,hB'⟩:=hB;have hr':k∈Region.ready .any ops listed:=by simpa using hr
  simp only[evD] at h;split at h
  ·rename_i o h0;simp only[Option.bind_eq_some_iff] at h;obtain ⟨st1,h1,h2⟩:=h;refine OB h0 l.length listed st st1 hc hb (λj oj hoj hjk hun=>?_) hr' h1 (OC hms hQ l _ st1 (iZ hc hr') (Nat.le_trans hb (wR h1)) hB' h2);have hjs:j<ops.size:=(Array.getElem?_eq_some_iff.1 hoj).1;have:=all_eq_true.1 hf j (by simpa using hjs);simp only[Bool.or_eq_true,ae] at this;rcases this with (hle|hl)|hp
   ·omega
   ·simp_all
   ·unfold U8 at hp;simp only[Bool.or_eq_true] at hp;rcases hp with hp|hp
    ·simp_all
    ·simp_all
  ·cases h
def fJ (ops:Array Oper) (st:St):St:=⟨st.s,st.σ,st.n+ops.size⟩
variable {Q:Exit->St->Prop}
def AAQ (hE:aQ cx.P E) (hm:cx.P.follows .mixedOrders=true) {id:Nat} (hB:tG M E ops=true) (h:evD M cx.P E nt ops st.n (ES M E ops) (fJ ops st)=some st') (hq:Q .normal st'):AW cx nt (.region id ops true) Q st:=by
 intro ρ a w hr;refine wp_region_any hm ?_;have hd:Below w.heap.size w w.drew:=(Below.refl _ _).drew;have hr':Rel cx nt ρ (fJ ops st) a w.drew:=⟨hr.inv.grow hd (Nat.le_add_right _ _),hr.nt,hr.defers,hr.keeps.trans' (bO.gM hd),hr.pR.below hd,λi=>(hr.nF i).grow hd⟩
 have hρ0:∀ k,st.n<=k->ρ k=none:=λk hk=>by
  cases hx:ρ k with
  | none=>rfl
  | some l=>have:=(hr.inv.new k l hx).1;omega
 simp only[tG,ac,ae] at hB;obtain ⟨⟨hmx,hlen⟩,hB⟩:=hB;have hlex:=OC (P:=cx.P) (E:=E) (nt:=nt) (base:=st.n) (Q:=λs=>s=st') (ms:=w3 ops.toList []) (λj i hb=>mJ ops.toList [] (by simp) (λj i hb=>by simp at hb) j i hb) rfl (ES M E ops) (Array.replicate ops.size false) (fJ ops st)
  (λm o _ hm'=>by simp[Array.getElem?_replicate] at hm';split at hm'<;>simp at hm') (Nat.le_add_right _ _) hB h
 rw[hlen] at hlex;exact LV hmx (Q:=λs=>s=st') (Q':=sV cx nt Q) hE (λs ρ a w hs hr=>by subst hs;exact ⟨s,ρ,hr,hq⟩) ops.size (Array.replicate ops.size false) (fJ ops st) ρ a w.drew hr' (by simp) (ak _) (λ_ i hi _ _=>hρ0 _ (by omega)) hlex
def AXQ (hE:aQ cx.P E) (hm:cx.P.follows .mixedOrders=true) {id:Nat} {base:Nat} (hle:base<=st.n) (hno:BEX ops=true) (hB:tG M E ops=true) (h:evD M cx.P E nt ops base (ES M E ops) (fJ ops st)=some st') (hq:Q .normal st'):AW cx nt (.region id ops true) Q st:=by
 intro ρ a w hr;refine wp_region_any hm ?_;have hd:Below w.heap.size w w.drew:=(Below.refl _ _).drew;have hr':Rel cx nt ρ (fJ ops st) a w.drew:=⟨hr.inv.grow hd (Nat.le_add_right _ _),hr.nt,hr.defers,hr.keeps.trans' (bO.gM hd),hr.pR.below hd,λi=>(hr.nF i).grow hd⟩
 simp only[tG,ac,ae] at hB;obtain ⟨⟨hmx,hlen⟩,hB⟩:=hB;have hlex:=OC (P:=cx.P) (E:=E) (nt:=nt) (base:=base) (Q:=λs=>s=st') (ms:=w3 ops.toList []) (λj i hb=>mJ ops.toList [] (by simp) (λj i hb=>by simp at hb) j i hb) rfl (ES M E ops) (Array.replicate ops.size false) (fJ ops st)
  (λm o _ hm'=>by simp[Array.getElem?_replicate] at hm';split at hm'<;>simp at hm') (Nat.le_trans hle (Nat.le_add_right _ _)) hB h
 rw[hlen] at hlex;exact LV hmx (Q:=λs=>s=st') (Q':=sV cx nt Q) hE (λs ρ a w hs hr=>by subst hs;exact ⟨s,ρ,hr,hq⟩) ops.size (Array.replicate ops.size false) (fJ ops st) ρ a w.drew hr' (by simp) (Nat.add_le_add_right hle _) (λ_ i hi ho _=>by
  obtain ⟨o,h0,hk⟩:=ho;obtain ⟨_,e,he⟩:=rB hk;have:=all_eq_true.1 hno o (by rw[Array.mem_toList_iff];exact Array.mem_of_getElem? h0);rw[he] at this;cases this) hlex
def A2N (M:Bool) (P:Program) (E:Env) (nt:Nat) (ops:Array Oper) (base:Nat) (T:Array Bool->St->Prop):Nat->Array Bool->St->Prop
 | 0,listed,st=>T listed st
 | f+1,listed,st=>Region.ready .any ops listed≠[]/\∀ i∈Region.ready .any ops listed,∃ o st',ops[i]? = some o/\gN M P E nt ops base i o st=some st'/\A2N M P E nt ops base T f (listed.setIfInBounds i true) st'
def wE (M:Bool) (E:Env) (ops:Array Oper) (ms:List Nat):List Nat->Array Bool->Bool
 | [],_=>true
 | k::l,listed=>(Region.ready .any ops listed).contains k&&(range ops.size).all (λj=>decide (j=k)||listed.getD j true||U8 M E ops ms k j)&&wE M E ops ms l (listed.setIfInBounds k true)
def E9 (ops:Array Oper):Nat->Nat->Array Bool->Bool
 | 0,_,listed=>(Region.ready .any ops listed).isEmpty
 | c+1,k,listed=>(match Region.ready .any ops listed with
  | [i]=>decide (i=k)
  | _=>false)&&E9 ops c (k+1) (listed.setIfInBounds k true)
def BMX (l:List Nat) (listed:Array Bool):Array Bool:=l.foldl (λL k=>L.setIfInBounds k true) listed
def YZ (E:Env) (ops:Array Oper) (t:Nat):Bool:=BEX ops&&(decide (t<=ops.size)&&(((range ops.size).all λj=>decide (j<t)||(range t).all λi=>((w3 ops.toList []).getD j 0).testBit i) &&
 (wE false E ops (w3 ops.toList []) (range t) (Array.replicate ops.size false)&&E9 ops (ops.size-t) t (BMX (range t) (Array.replicate ops.size false)))))
def AFS:∀ (t:Nat) (S:List Nat),S.Nodup->(∀ j∈S,j<t)->S.length<=t
 | 0,S,_,h=>by
  cases S with
  | nil=>simp
  | cons a S=>have:=h a (by simp);omega
 | t+1,S,hn,h=>by
  have h1:=AFS t (S.erase t) (hn.erase t) λj hj=>by
   grind
  by_cases hm:t∈S
  ·simp_all
  ·rw[List.erase_of_not_mem hm] at h1;omega
def Left (t:Nat) (listed:Array Bool) (f:Nat):Prop:=∀ S:List Nat,S.Nodup->(∀ j∈S,j<t/\listed.getD j true=false)->S.length<=f
def Left.step {t f j:Nat} {listed:Array Bool} (h:Left t listed (f+1)) (hj:j<t) (hu:listed.getD j true=false):Left t (listed.setIfInBounds j true) f:=λS hn hS=>by
 have hjs:j<listed.size:=by
  rcases Nat.lt_or_ge j listed.size with h'|h'
  ·exact h'
  ·simp_all
 have hnot:j∉S:=λhm=>by
  have:=(hS j hm).2;simp_all
 have:=h (j::S) (List.nodup_cons.2 ⟨hnot,hn⟩) λi hi=>by
  rcases mem_cons.1 hi with rfl|hi
  ·simp_all
  ·have h1:=hS i hi;have hne:j≠i:=λe=>hnot (e ▸ hi);simp_all
 simp_all
def AJG {T:Array Bool->St->Prop} {t i:Nat} (htl:∀ j oj,ops[j]? = some oj->t<=j->∀ i,i<t->Reach ops j i) (hi:ops[i]? = some oi) (hit:i<t) :
  ∀ (f:Nat) (listed:Array Bool) (st st₁:St),qL ops listed->base<=st.n->Left t listed (f+1) ->
   (∀ j oj,ops[j]? = some oj->j≠i->listed.getD j true=false->Reach ops j i\/(W5 (bW M E ops oi) (bW M E ops oj)=true/\oi.apart ops oj=true)) ->
   i∈Region.ready .any ops listed->gN M P E nt ops base i oi st=some st₁ ->
   A2N M P E nt ops base T f (listed.setIfInBounds i true) st₁->A2N M P E nt ops base T (f+1) listed st:=by
 have low:∀ {listed:Array Bool} {j:Nat},qL ops listed->listed.getD i true=false->j∈Region.ready .any ops listed->j<t:=λ{listed j} hc hiun hj=>by
  rcases Nat.lt_or_ge j t with h|h
  ·exact h
  ·obtain ⟨_,oj,hoj,hall⟩:=mem_ready.1 hj;have:=(htl j oj hoj h i hit).listed hc (λo ho e he hb=>by rw[hoj] at ho;cases ho;exact hall e he hb);rcases Nat.lt_or_ge i listed.size with h'|h'
   ·simp_all
   ·simp_all
 intro f
 induction f with
 | zero =>
  intro listed st st₁ hc _ hl _ hr hs H;refine ⟨λh=>(by rw[h] at hr;cases hr),λj hj=>?_⟩;by_cases hji:j=i
  ·simp_all
  ·have hiun:=(mem_ready.1 hr).1;have hjun:=(mem_ready.1 hj).1;have:=hl [i,j] (by simp[Ne.symm hji]) λk hk=>by
    simp only[mem_cons,List.not_mem_nil,or_false] at hk;rcases hk with rfl|rfl
    ·simp_all
    ·exact ⟨low hc hiun hj,hjun⟩
   simp at this
 | succ f ih =>
  intro listed st st₁ hc hb hl hfree hr hs H;refine ⟨λh=>(by rw[h] at hr;cases hr),λj hj=>?_⟩;by_cases hji:j=i
  ·simp_all
  ·obtain ⟨oj,st₂,hoj,h2,H2⟩:=H.2 j (ready_mono hj hji);obtain ⟨hjun,oj',hoj',hall⟩:=mem_ready.1 hj;rw[hoj] at hoj';cases hoj';have hiun:=(mem_ready.1 hr).1;rcases hfree j oj hoj hji hjun with hre|⟨hal,hap⟩
   ·have:=hre.listed hc (λo ho e he hb=>by rw[hoj] at ho;cases ho;exact hall e he hb);rcases Nat.lt_or_ge i listed.size with h'|h'
    ·simp_all
    ·simp_all
   ·obtain ⟨st₃,h3,h4⟩:=BG6 hb (Ne.symm hji) hap hal hs h2;refine ⟨oj,st₃,hoj,h3,ih (listed.setIfInBounds j true) st₃ st₂ (iZ hc hj) (Nat.le_trans hb (wR h3)) (hl.step (low hc hiun hj) hjun) (λk ok hk hki hun=>?_) (ready_mono hr (Ne.symm hji)) h4 ?_⟩
    ·refine hfree k ok hk hki ?_;by_cases hjk:j=k
     ·simp_all
     ·rw[getD_set_ne true hjk] at hun;exact hun
    ·rw[Array.setIfInBounds_comm _ _ hji];exact H2
def ABZ {P:Program} {T:Array Bool->St->Prop} {ms:List Nat} {t:Nat} (htl:∀ j oj,ops[j]? = some oj->t<=j->∀ i,i<t->Reach ops j i) (hms:∀ j i,(ms.getD j 0).testBit i=true->Reach ops j i) {st':St}:∀ (l:List Nat) (listed:Array Bool) (st:St),(∀ k∈l,k<t)->qL ops listed->base<=st.n->Left t listed l.length ->
  wE M E ops ms l listed=true->evD M P E nt ops base l st=some st'->T (BMX l listed) st'->A2N M P E nt ops base T l.length listed st
 | [],_,_,_,_,_,_,_,h,hT=>by
  cases h;exact hT
 | k::l,listed,st,hk,hc,hb,hl,hB,h,hT=>by
  simp only[wE,ac] at hB;obtain ⟨⟨hr,hf⟩,hB'⟩:=hB;have hr':k∈Region.ready .any ops listed:=by simpa using hr
  simp only[evD] at h;split at h
  ·rename_i o h0;simp only[Option.bind_eq_some_iff] at h;obtain ⟨st1,h1,h2⟩:=h;refine AJG htl h0 (hk k (by simp)) l.length listed st st1 hc hb hl (λj oj hoj hjk hun=>?_) hr' h1 (ABZ htl hms l _ st1 (λq hq=>hk q (by simp[hq])) (iZ hc hr') (Nat.le_trans hb (wR h1)) (hl.step (hk k (by simp)) (mem_ready.1 hr').1) hB' h2 hT);have hjs:j<ops.size:=(Array.getElem?_eq_some_iff.1 hoj).1;have:=all_eq_true.1 hf j (by simpa using hjs);simp only[Bool.or_eq_true,ae] at this;rcases this with (hle|hl)|hp
   ·omega
   ·simp_all
   ·unfold U8 at hp;simp only[Bool.or_eq_true] at hp;rcases hp with hp|hp
    ·simp_all
    ·simp_all
  ·cases h
def AOI (hno:∀ (i:Nat) (o:Oper),ops[i]? = some o->bW M E ops o≠.alloc) (hE:aQ cx.P E) {T:Array Bool->St->Prop} {Q':Exit->Act->World->Prop} (m:Nat) (hT:∀ listed st ρ a w,T listed st->Rel cx nt ρ st a w->wpAny cx.P .any ops Q' m listed a w) :
  ∀ (f:Nat) (listed:Array Bool) (st:St) (ρ:Nat->Option Loc) (a:Act) (w:World),Rel cx nt ρ st a w->base+ops.size<=st.n->A2N M cx.P E nt ops base T f listed st->wpAny cx.P .any ops Q' (f+m) listed a w
 | 0,listed,st,ρ,a,w,hr,_,h=>by rw[Nat.zero_add];exact hT listed st ρ a w h hr
 | f+1,listed,st,ρ,a,w,hr,hn,h=>by
  rw[show f+1+m=(f+m)+1 by omega];refine ⟨λh0=>absurd h0 h.1,λi hi=>?_⟩;obtain ⟨o,st',h0,h1,h2⟩:=h.2 i hi;have hil:i<ops.size:=(Array.getElem?_eq_some_iff.1 h0).1;unfold wpOp;simp only[h0];have:=AGQ (Q:=Q') hE hr hil hn (λhka=>absurd hka (hno i o h0)) h1 (K:=wpAny cx.P .any ops Q' (f+m) (listed.setIfInBounds i true)) (λρ' a' w' hr' _=>AOI hno hE m hT f _ st' ρ' a' w' hr' (Nat.le_trans hn (wR h1)) h2);split
  ·simp_all
  ·simp_all
def A95 {ops:Array Oper} {Q:Exit->Act->World->Prop} {i:Nat} {K':Act->World->Prop} (hk:∀ a w,K a w->K' a w) {a:Act} {w:World} (h:wpOp P ops Q i K a w):wpOp P ops Q i K' a w:=by
 unfold wpOp at h ⊢;split at h
 ·simp_all
 ·split at h
  ·rename_i hw;rw[if_pos hw];rcases h with h|h
   ·exact .inl (Oper.wp_mono hk h)
   ·simp_all
  ·simp_all
def T9 {P:Program} {Q:Exit->Act->World->Prop}:∀ (c k:Nat) (listed:Array Bool) (a:Act) (w:World),E9 ops c k listed=true->wpOps P ops Q (range' k c) a w->wpAny P .any ops Q c listed a w
 | 0,k,listed,a,w,h,hw=>by
  simp only[E9,List.isEmpty_iff] at h;exact ⟨h,by simpa [wpOps] using hw⟩
 | c+1,k,listed,a,w,h,hw=>by
  simp only[E9,ac] at h;obtain ⟨h1,h2⟩:=h;split at h1
  ·rename_i i hr;have hik:i=k:=of_decide_eq_true h1;subst hik;refine ⟨λh0=>(by rw[hr] at h0;cases h0),λj hj=>?_⟩;rw[hr] at hj;have:j=i:=by simpa using hj
   subst this;exact A95 (λa w=>T9 c (j+1) _ a w h2) hw
  ·cases h1
def AXR (hE:aQ cx.P E) (hm:cx.P.follows .mixedOrders=true) {id t:Nat} (hB:YZ E ops t=true) (h:evD false cx.P E nt ops st.n (range t) (fJ ops st)=some st')
  (hq:∀ ρ a w,Rel cx nt ρ st' a w->wpOps cx.P ops (sV cx nt Q) (range' t (ops.size-t)) a w):AW cx nt (.region id ops true) Q st:=by
 intro ρ a w hr;refine wp_region_any hm ?_;have hd:Below w.heap.size w w.drew:=(Below.refl _ _).drew;have hr':Rel cx nt ρ (fJ ops st) a w.drew:=⟨hr.inv.grow hd (Nat.le_add_right _ _),hr.nt,hr.defers,hr.keeps.trans' (bO.gM hd),hr.pR.below hd,λi=>(hr.nF i).grow hd⟩
 simp only[YZ,ac,ae] at hB;obtain ⟨hno,hle,htl,hord,hfor⟩:=hB;have hrm:=λj i hb=>mJ (ops:=ops) ops.toList [] (by simp) (λj i hb=>by simp at hb) j i hb;have hno':∀ (i:Nat) (o:Oper),ops[i]? = some o->bW false E ops o≠.alloc:=λi o ho hk=>by
  obtain ⟨_,e,he⟩:=rB hk;have:=all_eq_true.1 hno o (by rw[Array.mem_toList_iff];exact Array.mem_of_getElem? ho);simp_all
 have htl':∀ j oj,ops[j]? = some oj->t<=j->∀ i,i<t->Reach ops j i:=λj oj hj htj i hi=>by
  have hjs:j<ops.size:=(Array.getElem?_eq_some_iff.1 hj).1;have h1:=all_eq_true.1 htl j (by simpa using hjs);simp only[Bool.or_eq_true,ae] at h1;rcases h1 with h1|h1
  ·omega
  ·simp_all
 have hlex:=ABZ (P:=cx.P) (M:=false) (E:=E) (nt:=nt) (base:=st.n) (T:=λL s=>L=BMX (range t) (Array.replicate ops.size false)/\s=st') htl' hrm (range t) (Array.replicate ops.size false) (fJ ops st) (λk hk=>by simpa using hk)
  (λm o _ hm'=>by simp[Array.getElem?_replicate] at hm';split at hm'<;>simp at hm') (Nat.le_add_right _ _) (λS hn hS=>by
   have:=AFS t S hn λj hj=>(hS j hj).1;simpa using this) hord h ⟨rfl,rfl⟩
 rw[List.length_range] at hlex;have:=AOI (Q':=sV cx nt Q) hno' hE (ops.size-t) (λL s ρ a w hs hr=>by
  obtain ⟨rfl,rfl⟩:=hs;exact T9 _ _ _ _ _ hfor (hq ρ a w hr)) t (Array.replicate ops.size false) (fJ ops st) ρ a w.drew hr' (ak _) hlex
 simp_all
def BCQ {α β:Type} (g:α->Option (List β)):List α->Option (List β)
 | []=>some []
 | i::r=>match g i,BCQ g r with
  | some a,some b=>some (a++b)
  | _,_=>none
def TF {α β:Type} {g:α->Option (List β)}:∀ {is:List α} {l:List β},BCQ g is=some l->∀ i∈is,∃ a,g i=some a/\∀ x∈a,x∈l
 | [],l,_,i,hi=>by simp at hi
 | j::r,l,h,i,hi=>by
  simp only[BCQ] at h;split at h
  ·rename_i a b h1 h2;cases h;rcases mem_cons.1 hi with rfl|hi
   ·simp_all
   ·obtain ⟨c,h3,h4⟩:=TF h2 i hi;simp_all
  ·cases h
def W2 (P:Program) (E:Env) (nt:Nat) (ops:Array Oper):Nat->Array Bool->St->Option (List St)
 | 0,listed,st=>match Region.ready .any ops listed with
  | []=>some [st]
  | _=>none
 | f+1,listed,st=>match Region.ready .any ops listed with
  | []=>some [st]
  | i::is=>BCQ (λi=>match ops[i]? with
   | some o=>match fD P E nt ops o st with
    | some st'=>W2 P E nt ops f (listed.setIfInBounds i true) st'
    | none=>none
   | none=>none) (i::is)
def ABW {P:Program} {Q:St->Prop}:∀ (f:Nat) (listed:Array Bool) (st:St) (l:List St),W2 P E nt ops f listed st=some l->(∀ s∈l,Q s)->SJ P E nt ops Q f listed st
 | 0,listed,st,l,h,hq=>by
  simp only[W2] at h;split at h
  ·rename_i hr;cases h;exact ⟨hr,hq st (List.mem_singleton.2 rfl)⟩
  ·cases h
 | f+1,listed,st,l,h,hq=>by
  simp only[W2] at h;split at h
  ·rename_i hr;cases h;exact ⟨λ_=>hq st (List.mem_singleton.2 rfl),λi hi=>(by rw[hr] at hi;cases hi)⟩
  ·rename_i i0 is hr;refine ⟨λh0=>(by rw[h0] at hr;cases hr),λi hi=>?_⟩;rw[hr] at hi;obtain ⟨a,h1,h2⟩:=TF h i hi;split at h1
   ·rename_i o ho;split at h1
    ·rename_i st' hs;exact ⟨o,st',ho,hs,ABW f _ st' a h1 λs hs=>hq s (h2 s hs)⟩
    ·cases h1
   ·cases h1
def nO (nt:Nat) (st:St):St:=⟨λi=>match Nat.blt i nt with|true=>st.s i|false=>.p (.v undef),λk=>match Nat.blt k st.n with|true=>st.σ k|false=>none,st.n⟩
def A7F {a:Act} {w:World} (hr:Rel cx nt ρ st a w):Rel cx nt ρ (nO nt st) a w:=by
 have hσ:(nO nt st).σ=st.σ:=by
  funext k
  show (match Nat.blt k st.n with|true=>st.σ k|false=>none)=st.σ k;cases hk:Nat.blt k st.n with
  | true=>rfl
  | false =>
   cases hx:st.σ k with
   | none=>rfl
   | some x =>
    obtain ⟨l,hl,_⟩:=hr.inv.boxes k x hx;have:=(hr.inv.new k l hl).1;rw[<-Bool.not_eq_true] at hk;simp_all
 refine ⟨by rw[hσ];exact hr.inv,hr.nt,hr.defers,by rw[hσ];exact hr.keeps,hr.pR,λi=>?_⟩;rw[hσ];show Rd w _ ρ (match Nat.blt i nt with|true=>st.s i|false=>.p (.v undef)) _;cases hi:Nat.blt i nt with
 | true=>exact hr.nF i
 | false =>
  have h2:¬ i<nt:=λh=>by rw[<-Bool.not_eq_true] at hi;exact hi (Nat.ble_eq_true_of_le h)
  have h1:=hr.nt;have:a.tmps.getD i undef=undef:=by
   simp_all
  rw[this];exact .p _ _ (.v _)
def BDC:Value->Value->Bool
 | .int k a,.int k' b=>decide (k=k')&&a == b
 | .bool a,.bool b=>a == b
 | .string a,.string b=>decide (a=b)
 | .slice none a b,.slice none c d=>Nat.beq a c&&Nat.beq b d
 | .pointer none,.pointer none=>true
 | .nilFunc,.nilFunc=>true
 | .tuple a,.tuple b=>Nat.beq a.size 0&&Nat.beq b.size 0
 | _,_=>false
def AOV {a b:Value} (h:BDC a b=true):a=b:=by
 unfold BDC at h;split at h<;>try simp only[ac,ae,beq_iff_eq] at h
 ·simp_all
 ·rw[h]
 ·rw[h]
 ·simp_all
 ·rfl
 ·rfl
 ·simp_all
 ·cases h
mutual
def BDB:T->T->Bool
 | .v a,.v b=>BDC a b
 | .agg a,.agg b=>xQ a b
 | .bX a,.bX b=>xQ a b
 | .ref a,.ref b=>xQ a b
 | .ne f,.ne g=>f == g
 | .fn f a b,.fn g c d=>Nat.beq f g&&(xQ a c&&xQ b d)
 | .sl f a,.sl g b=>(f == g)&&DK a b
 | _,_=>false
def xQ:List T->List T->Bool
 | [],[]=>true
 | a::l,b::m=>BDB a b&&xQ l m
 | _,_=>false
def DK:List (List T)->List (List T)->Bool
 | [],[]=>true
 | a::l,b::m=>xQ a b&&DK l m
 | _,_=>false
end
mutual
def AOU:∀ (a b:T),BDB a b=true->a=b
 | a,b,h=>by
  unfold BDB at h;split at h
  ·rw[AOV h]
  ·rw[qS _ _ h]
  ·rw[qS _ _ h]
  ·rw[qS _ _ h]
  ·rw[beq_iff_eq] at h;rw[h]
  ·simp only[ac] at h;rw[Nat.eq_of_beq_eq_true h.1,qS _ _ h.2.1,qS _ _ h.2.2]
  ·simp only[ac,beq_iff_eq] at h;rw[H8 _ _ h.2,h.1]
  ·cases h
def qS:∀ (a b:List T),xQ a b=true->a=b
 | [],[],_=>rfl
 | a::l,b::m,h=>by simp only[xQ,ac] at h;rw[AOU a b h.1,qS l m h.2]
 | [],_::_,h=>by simp[xQ] at h
 | _::_,[],h=>by simp[xQ] at h
def H8:∀ (a b:List (List T)),DK a b=true->a=b
 | [],[],_=>rfl
 | a::l,b::m,h=>by simp only[DK,ac] at h;rw[qS a b h.1,H8 l m h.2]
 | [],_::_,h=>by simp[DK] at h
 | _::_,[],h=>by simp[DK] at h
end
mutual
def A3V:D->D->Bool
 | .p a,.p b=>BDB a b
 | .agg a,.agg b=>CL a b
 | .bX a,.bX b=>CL a b
 | .ptr a b c,.ptr d e f=>Nat.beq a d&&(Nat.beq b e&&Nat.beq c f)
 | .own a,.own b=>Nat.beq a b
 | .bs a b c,.bs d e f=>Nat.beq a d&&(Nat.beq b e&&Nat.beq c f)
 | .map a,.map b=>Nat.beq a b
 | .it a,.it b=>Nat.beq a b
 | .fn f a b,.fn g c d=>Nat.beq f g&&(CL a c&&CL b d)
 | .any,.any=>true
 | _,_=>false
def CL:List D->List D->Bool
 | [],[]=>true
 | a::l,b::m=>A3V a b&&CL l m
 | _,_=>false
end
mutual
def XL:∀ (a b:D),A3V a b=true->a=b
 | a,b,h=>by
  unfold A3V at h;split at h
  ·rw[AOU _ _ h]
  ·rw[tX _ _ h]
  ·rw[tX _ _ h]
  ·simp only[ac] at h;rw[Nat.eq_of_beq_eq_true h.1,Nat.eq_of_beq_eq_true h.2.1,Nat.eq_of_beq_eq_true h.2.2]
  ·rw[Nat.eq_of_beq_eq_true h]
  ·simp only[ac] at h;rw[Nat.eq_of_beq_eq_true h.1,Nat.eq_of_beq_eq_true h.2.1,Nat.eq_of_beq_eq_true h.2.2]
  ·rw[Nat.eq_of_beq_eq_true h]
  ·rw[Nat.eq_of_beq_eq_true h]
  ·simp only[ac] at h;rw[Nat.eq_of_beq_eq_true h.1,tX _ _ h.2.1,tX _ _ h.2.2]
  ·rfl
  ·cases h
def tX:∀ (a b:List D),CL a b=true->a=b
 | [],[],_=>rfl
 | a::l,b::m,h=>by simp only[CL,ac] at h;rw[XL a b h.1,tX l m h.2]
 | [],_::_,h=>by simp[CL] at h
 | _::_,[],h=>by simp[CL] at h
end
def H7:List (List D)->List (List D)->Bool
 | [],[]=>true
 | a::l,b::m=>CL a b&&H7 l m
 | _,_=>false
def TR:∀ (a b:List (List D)),H7 a b=true->a=b
 | [],[],_=>rfl
 | a::l,b::m,h=>by simp only[H7,ac] at h;rw[tX a b h.1,TR l m h.2]
 | [],_::_,h=>by simp[H7] at h
 | _::_,[],h=>by simp[H7] at h
def ATQ:List (Value×D)->List (Value×D)->Bool
 | [],[]=>true
 | a::l,b::m=>BDC a.1 b.1&&(A3V a.2 b.2&&ATQ l m)
 | _,_=>false
def AOT:∀ (a b:List (Value×D)),ATQ a b=true->a=b
 | [],[],_=>rfl
 | a::l,b::m,h=>by simp only[ATQ,ac] at h;rw[Prod.ext (AOV h.1) (XL _ _ h.2.1),AOT l m h.2.2]
 | [],_::_,h=>by simp[ATQ] at h
 | _::_,[],h=>by simp[ATQ] at h
def BJH:Option bE->Option bE->Bool
 | none,none=>true
 | some (.rows f a),some (.rows g b)=>(f == g)&&H7 a b
 | some (.arr f z a),some (.arr g y b)=>(f == g)&&(Nat.beq z y&&DK a b)
 | some (.map f a),some (.map g b)=>(f == g)&&ATQ a b
 | some (.kV a n),some (.kV b m)=>decide (a=b)&&Nat.beq n m
 | some .held,some .held=>true
 | _,_=>false
def BC8 {a b:Option bE} (h:BJH a b=true):a=b:=by
 unfold BJH at h;split at h
 ·rfl
 ·simp only[ac,beq_iff_eq] at h;rw[h.1,TR _ _ h.2]
 ·simp only[ac,beq_iff_eq] at h;rw[h.1,Nat.eq_of_beq_eq_true h.2.1,H8 _ _ h.2.2]
 ·simp only[ac,beq_iff_eq] at h;rw[h.1,AOT _ _ h.2]
 ·simp_all
 ·rfl
 ·cases h
def A2M (f:Nat->Bool):Nat->Bool
 | 0=>true
 | n+1=>f n&&A2M f n
def W3 {f:Nat->Bool}:∀ {n:Nat},A2M f n=true->∀ i,i<n->f i=true
 | n+1,h,i,hi=>by
  rw[A2M,ac] at h;by_cases e:i=n
  ·simp_all
  ·exact W3 h.2 i (by omega)
def BC9 (nt:Nat) (a b:St):Bool:=Nat.beq a.n b.n&&(A2M (λi=>A3V (a.s i) (b.s i)) nt&&A2M (λk=>BJH (a.σ k) (b.σ k)) a.n)
def BDA {a b:St} (h:BC9 nt a b=true):nO nt a=nO nt b:=by
 simp only[BC9,ac] at h;obtain ⟨h1,h2,h3⟩:=h;have h1:=Nat.eq_of_beq_eq_true h1;have e1:(nO nt a).s=(nO nt b).s:=by
  funext i
  show (match Nat.blt i nt with|true=>a.s i|false=>.p (.v undef))=(match Nat.blt i nt with|true=>b.s i|false=>.p (.v undef));cases hi:Nat.blt i nt with
  | true=>exact XL _ _ (W3 h2 i (Nat.le_of_ble_eq_true hi))
  | false=>rfl
 have e2:(nO nt a).σ=(nO nt b).σ:=by
  funext k
  show (match Nat.blt k a.n with|true=>a.σ k|false=>none)=(match Nat.blt k b.n with|true=>b.σ k|false=>none);rw[<-h1];cases hi:Nat.blt k a.n with
  | true=>exact BC8 (W3 h3 k (Nat.le_of_ble_eq_true hi))
  | false=>rfl
 show (⟨(nO nt a).s,(nO nt a).σ,a.n⟩:St)=⟨(nO nt b).s,(nO nt b).σ,b.n⟩;simp_all
def D1 (nt:Nat):List St->List St
 | []=>[]
 | a::l=>match l.all λb=>BC9 nt a b with
  | true=>[nO nt a]
  | false=>(a::l).map (nO nt)
def AFI {l:List St} {Q:St->Prop} (h:∀ s∈D1 nt l,Q s):∀ s∈l,Q (nO nt s):=by
 intro s hs;cases l with
 | nil=>cases hs
 | cons a l =>
  rw[D1] at h;cases he:l.all λb=>BC9 nt a b with
  | true =>
   rw[he] at h;have h0:=h (nO nt a) (List.mem_singleton.2 rfl);rcases mem_cons.1 hs with rfl|hs
   ·exact h0
   ·rw[<-BDA (all_eq_true.1 he s hs)];exact h0
  | false =>
   rw[he] at h;exact h _ (List.mem_map.2 ⟨s,hs,rfl⟩)
variable {Q:Exit->St->Prop}{st:St}
def BHS (hE:aQ cx.P E) (hm:cx.P.follows .mixedOrders=true) {id:Nat} {l:List St} (h:W2 cx.P E nt ops ops.size (Array.replicate ops.size false) st=some l) (hq:∀ s∈D1 nt l,Q .normal s):AW cx nt (.region id ops true) Q st:=by
 intro ρ a w hr;refine wp_region_any hm ?_;have hd:Below w.heap.size w w.drew:=(Below.refl _ _).drew;have hr':Rel cx nt ρ st a w.drew:=⟨hr.inv.grow hd (ak _),hr.nt,hr.defers,hr.keeps.trans' (bO.gM hd),hr.pR.below hd,λi=>(hr.nF i).grow hd⟩
 exact LU (Q:=λs=>Q .normal (nO nt s)) (Q':=sV cx nt Q) hE (λs ρ a w hs hr=>⟨nO nt s,ρ,A7F hr,hs⟩) ops.size (Array.replicate ops.size false) st ρ a w.drew hr' (ABW _ _ _ _ h (AFI (Q:=λs=>Q .normal s) hq))
end
end Go.Pv
