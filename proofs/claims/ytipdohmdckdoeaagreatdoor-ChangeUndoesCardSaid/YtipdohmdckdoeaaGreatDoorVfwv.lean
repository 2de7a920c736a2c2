/-
  The pure evaluator, part v: regions that draw their order, with new variables in them.
-/
import Derived.Test.YtipdohmdckdoeaaGreatDoorVfwm
set_option linter.defProp false
set_option linter.unusedSimpArgs false
namespace Go.Pv
open Go Go.RowKit
open List (all_eq_true range mem_cons range')
def DU (σ₀ σ:Nat->Option bE):Prop:=∀ k x,σ₀ k=some x->σ k=some x
section
variable {P : Program} {σ₀ σ : Nat -> Option bE}
def DU.bind (h:DU σ₀ σ) {k:Nat} {α:Type} {f:bE->Option α} {a:α} (hb:(σ₀ k).bind f=some a):(σ k).bind f=some a:=by
 rw[Option.bind_eq_some_iff] at hb ⊢;obtain ⟨x,h1,h2⟩:=hb;exact ⟨x,h _ _ h1,h2⟩
def AIS (h:DU σ₀ σ) {t:TypeId} {d r:D} (hr:uM P σ₀ t d=some r):uM P σ t d=some r:=by
 unfold uM at hr ⊢;split at hr
 ·rename_i ag m hag hm
  try simp only[hag,hm]
  split at hr
  ·exact hr
  ·rename_i k i j;split at hr
   ·rename_i rs hk
    try simp only[h.bind hk]
    exact hr
   ·cases hr
  ·cases hr
 ·cases hr
def JZ (h:DU σ₀ σ) {t:TypeId} {d i r:D} (hr:dH P σ₀ t d i=some r):dH P σ t d i=some r:=by
 unfold dH at hr ⊢;split at hr
 ·rename_i kk i
  try simp only
  by_cases hi:i<0
  ·rw[if_pos hi] at hr;cases hr
  ·rw[if_neg hi] at hr ⊢;split at hr
   ·rename_i e he
    try simp only[he]
    split at hr
    ·exact hr
    ·rename_i z k off len hz;split at hr
     ·rename_i hlt;rw[if_pos hlt];split at hr
      ·rename_i rs hk
       try simp only[h.bind hk]
       exact hr
      ·cases hr
     ·cases hr
    ·rename_i z k hz;split at hr
     ·rename_i rs hk
      try simp only[h.bind hk]
      exact hr
     ·cases hr
    ·cases hr
   ·rename_i he
    try simp only[he]
    exact hr
 ·cases hr
def ASB (h:DU σ₀ σ) {t:TypeId} {d r:D} (hr:ASA P σ₀ t d=some r):ASA P σ t d=some r:=by
 unfold ASA at hr ⊢;split at hr
 ·rename_i hu
  try simp only[hu]
  exact hr
 ·rename_i e hu
  try simp only[hu]
  split at hr
  ·exact hr
  ·rename_i k;split at hr
   ·rename_i hk;try simp only[h _ _ hk]
    exact hr
   ·rename_i hk;try simp only[h _ _ hk]
    exact hr
   ·cases hr
  ·exact hr
  ·cases hr
 ·rename_i e hu
  try simp only[hu]
  split at hr
  ·rename_i k;split at hr
   ·rename_i hk;try simp only[h _ _ hk]
    exact hr
   ·cases hr
  ·exact hr
  ·cases hr
 ·rename_i m e hu
  try simp only[hu]
  exact hr
 ·cases hr
def AIU (h:DU σ₀ σ) {t:TypeId} {x i r:D} {ok:Bool} (hr:wE P σ₀ t x i ok=some r):wE P σ t x i ok=some r:=by
 unfold wE at hr ⊢;split at hr
 ·rename_i kt et hu
  try simp only[hu]
  split at hr
  ·rename_i kd k z hk hz
   try simp only[hk,hz]
   split at hr
   ·cases hr
   ·rename_i hkey
    try simp only[hkey]
    split at hr
    ·rename_i m;split at hr
     ·rename_i hm;try simp only[h _ _ hm]
      exact hr
     ·cases hr
    ·exact hr
    ·exact hr
    ·cases hr
  ·cases hr
 ·cases hr
def mapM_mono {α β:Type} {f g:α->Option β} (hfg:∀ a b,f a=some b->g a=some b):∀ {l:List α} {bs:List β},l.mapM f=some bs->l.mapM g=some bs
 | [],bs,h=>h
 | a::l,bs,h=>by
  simp only[List.mapM_cons,Option.bind_eq_bind,Option.bind_eq_some_iff,Option.pure_def] at h ⊢;obtain ⟨b,h1,bs',h2,h3⟩:=h;exact ⟨b,hfg _ _ h1,bs',mapM_mono hfg h2,h3⟩
def N6 (h:DU σ₀ σ):∀ (n:Nat) (d:D) (t:T),jB σ₀ n d=some t->jB σ n d=some t:=by
 intro n
 induction n with
 | zero=>intro d t hd;cases d<;>simp[jB] at hd ⊢ <;> exact hd
 | succ n ih =>
  intro d t hd;have ihL:∀ {ds:List D} {ts:List T},ds.mapM (jB σ₀ n)=some ts->ds.mapM (jB σ n)=some ts:=λhm=>mapM_mono ih hm;have ihR:∀ {rs:List (List D)} {ts:List (List T)},rs.mapM (λ(r:List D)=>r.mapM (jB σ₀ n))=some ts->rs.mapM (λ(r:List D)=>r.mapM (jB σ n))=some ts:=λhm=>mapM_mono (λ_ _ hm=>mapM_mono ih hm) hm;cases d with
  | p t'=>exact hd
  | agg cs =>
   simp only[jB,aa] at hd ⊢;obtain ⟨ts,h1,h2⟩:=hd;exact ⟨ts,ihL h1,h2⟩
  | bY cs =>
   simp only[jB,aa] at hd ⊢;obtain ⟨ts,h1,h2⟩:=hd;exact ⟨ts,ihL h1,h2⟩
  | fn f a b =>
   simp only[jB] at hd ⊢;split at hd
   ·rename_i a' b' ha hb;simp only[ihL ha,ihL hb];exact hd
   ·cases hd
  | ptr k i j =>
   simp only[jB] at hd ⊢;split at hd
   ·rename_i rs hk;simp only[h.bind hk];split at hd
    ·rename_i r hr;split at hd
     ·rename_i hj;rw[if_pos hj];simp only[aa] at hd ⊢;obtain ⟨ts,h1,h2⟩:=hd;exact ⟨ts,ihL h1,h2⟩
     ·cases hd
    ·cases hd
   ·cases hd
  | own k =>
   simp only[jB] at hd ⊢;split at hd
   ·rename_i hk;simp only[h _ _ hk];exact hd
   ·rename_i hk;simp only[h _ _ hk];simp only[aa] at hd ⊢;obtain ⟨ts,h1,h2⟩:=hd;exact ⟨ts,ihR h1,h2⟩
   ·cases hd
  | bs k off len =>
   simp only[jB] at hd ⊢;split at hd
   ·rename_i hk;simp only[h _ _ hk];exact hd
   ·rename_i hk;simp only[h _ _ hk];split at hd
    ·rename_i hle;rw[if_pos hle];simp only[aa] at hd ⊢;obtain ⟨ts,h1,h2⟩:=hd;exact ⟨ts,ihR h1,h2⟩
    ·cases hd
   ·cases hd
  | map k =>
   simp only[jB] at hd ⊢;split at hd
   ·rename_i hk;simp only[h _ _ hk];simp only[aa] at hd ⊢;obtain ⟨ts,h1,h2⟩:=hd;refine ⟨ts,mapM_mono (λe b he=>?_) h1,h2⟩;simp only[aa] at he ⊢;obtain ⟨t',h3,h4⟩:=he;exact ⟨t',ih _ _ h3,h4⟩
   ·cases hd
  | _=>simp[jB] at hd
def FA (E:Env) (f:FuncId):Bool:=match E f with
 | some (.pure _)=>true
 | some (.new _)=>true
 | some (.AQQ _)=>true
 | some (.ext _)=>true
 | _=>false
variable {E:Env}{n':Nat}
def AG2 (h:DU σ₀ σ) {n:Nat} {f:FuncId} {c:D} {args:List D} {r:D} (hc:c = .p (.fn f [] [])) (hf:FA E f=true) (hr:qS E σ₀ n c args=some r):qS E σ n' c args=some r:=by
 subst hc;unfold qS at hr ⊢;simp only[j5] at hr ⊢;unfold FA at hf;split at hf
 ·rename_i g hg;simp only[hg] at hr ⊢;split at hr
  ·exact hr
  ·split at hr
   ·rename_i ts hts;rw[mapM_mono (N6 h 4) hts];exact hr
   ·cases hr
 ·rename_i g hg;simp only[hg] at hr ⊢;split at hr
  ·rename_i ts hts;rw[mapM_mono (N6 h 4) hts];exact hr
  ·cases hr
 ·rename_i g hg;simp only[hg] at hr ⊢;split at hr
  ·rename_i ts hts;rw[mapM_mono (N6 h 4) hts];exact hr
  ·cases hr
 ·rename_i g hg;simp only[hg] at hr ⊢;exact hr
 ·cases hf
def yG (E:Env) (op:Op):Bool:=match op with
 | .load .. | .indexAddr .. | .lookup .. | .makeFunc .. | .nilCheck .. => true
 | .slice .. => E.marked 6000000000
 | .call c=>match c.callee with
  | .builtin .len=>true
  | .builtin .min=>true
  | .builtin .max=>true
  | .value (.func f)=>FA E f
  | _=>false
 | op=>lE E op
def WM {op:Op} (h:yG E op=true):eH E op=true:=by
 unfold yG at h;split at h<;>try rfl
 ·split at h
  ·rename_i hc;simp[eH,hc]
  ·rename_i hc;simp[eH,hc]
  ·rename_i hc;simp[eH,hc]
  ·rename_i f hc;simp only[eH,hc,Env.A3I];unfold FA at h;split at h<;>first|(rename_i hg;simp[hg])|cases h
  ·cases h
 ·exact pS h
def F6 {σ₀ σ:Nat->Option bE} (h:DU σ₀ σ) {k z:Nat} (hw:kX σ₀ k z=true):kX σ k z=true:=by
 unfold kX at hw ⊢;cases hk:σ₀ k with
 | none=>rw[hk] at hw;cases hw
 | some b=>rw[hk] at hw;rw[h k b hk];exact hw
def AD4 {P:Program} {σ₀ σ:Nat->Option bE} (h:DU σ₀ σ) {t:TypeId} {d:D} {lo hi mx:Option D} {r:D} (hr:lG P σ₀ t d lo hi mx=some r):lG P σ t d lo hi mx=some r:=by
 unfold lG at hr ⊢;cases he:lI P t with
 | none=>rw[he] at hr;exact hr
 | some e =>
  rw[he] at hr;dsimp only at hr ⊢;cases hz:tsz? P e with
  | none=>rw[hz] at hr;cases hr
  | some z =>
   rw[hz] at hr;dsimp only at hr ⊢;cases d with
   | own k =>
    dsimp only at hr ⊢;cases hk:σ₀ k with
    | none=>rw[hk] at hr;cases mx<;>cases hr
    | some b =>
     rw[hk] at hr;rw[h k b hk];cases hw0:kX σ₀ k z with
     | true=>rw[F6 h hw0];rw[hw0] at hr;exact hr
     | false =>
      rw[hw0] at hr;cases hw1:kX σ k z with
      | false=>exact hr
      | true =>
       split at hr
       ·split at hr
        ·split at hr
         ·split at hr
          ·rename_i e1;simp only[e1,if_true];exact hr
          ·cases hr
         ·cases hr
        ·cases hr
       ·cases hr
   | bs k off len =>
    dsimp only at hr ⊢;cases hw0:kX σ₀ k z with
    | true=>rw[F6 h hw0];rw[hw0] at hr;exact hr
    | false =>
     rw[hw0] at hr;cases hw1:kX σ k z with
     | false=>exact hr
     | true =>
      split at hr
      ·cases hr
      ·split at hr
       ·split at hr
        ·split at hr
         ·rename_i e1;simp only[e1,if_true];exact hr
         ·cases hr
        ·cases hr
       ·cases hr
   | _=>exact hr
def BCS (h:DU σ₀ σ) {n:Nat} {s₀ s:Nat->D} {cg:Bool} {op:Op} {r:D} (hq:yG E op=true) (hr:qv P E n σ₀ s₀ s cg op=some r):qv P E n' σ s₀ s cg op=some r:=by
 unfold yG at hq;split at hq
 ·exact AIS h hr
 ·exact JZ h hr
 ·exact AIU h hr
 ·rename_i f a b;cases f<;>exact hr
 ·exact hr
 ·exact AD4 h hr
 ·rename_i c;simp only[qv] at hr ⊢;split at hq
  ·rename_i hc;simp only[hc] at hr ⊢;split at hr
   ·rename_i hat hx
    try simp only[hat,hx]
    exact ASB h hr
   ·cases hr
  ·rename_i hc;simp only[hc] at hr ⊢;exact hr
  ·rename_i hc;simp only[hc] at hr ⊢;exact hr
  ·rename_i f hc;simp only[hc] at hr ⊢;exact AG2 h rfl hq hr
  ·cases hq
 ·rw[WN hq n' n σ σ₀];exact hr
end
def wF (base:Nat) (σ:Nat->Option bE):Nat->Option bE:=λk=>match Nat.ble base k with
 | true=>none
 | false=>σ k
variable {base:Nat}{σ:Nat->Option bE}
def E8 {k:Nat} (h:k<base):wF base σ k=σ k:=by
 unfold wF;rw[show Nat.ble base k=false from Bool.eq_false_iff.2 λh'=>by have:=Nat.le_of_ble_eq_true h';omega]
def E7 {k:Nat} (h:base<=k):wF base σ k=none:=by
 unfold wF;rw[Nat.ble_eq_true_of_le h]
variable {σ':Nat->Option bE}
def ASF (h:∀ k x,k<base->σ' k=some x->σ k=some x):DU (wF base σ') σ:=λk x hk=>by
 rcases Nat.lt_or_ge k base with hl|hg
 ·rw[E8 hl] at hk;exact h k x hl hk
 ·rw[E7 hg] at hk;cases hk
def AIY (h:∀ k x,k<base->σ' k=some x->σ k=some x):DU (wF base σ') (wF base σ):=λk x hk=>by
 rcases Nat.lt_or_ge k base with hl|hg
 ·rw[E8 hl] at hk ⊢;exact h k x hl hk
 ·rw[E7 hg] at hk;cases hk
def A30 (h:∀ k,k<base->σ' k=σ k):wF base σ'=wF base σ:=funext λk=>by
 rcases Nat.lt_or_ge k base with hl|hg
 ·rw[E8 hl,E8 hl,h k hl]
 ·rw[E7 hg,E7 hg]
inductive KD where|free|quiet|ask|alloc|new|app|mk|old|wN
def BIE (ops:Array Oper) (x:Operand):Bool:=match x with
 | .tmp t=>ops.toList.any λo=>match o.op with
  | .alloc _=>o.dst == some t
  | _=>false
 | _=>false
def BBR (ops:Array Oper):Bool:=ops.toList.all λo=>match o.op with
 | .alloc _=>false
 | _=>true
def cD (M:Bool) (E:Env) (ops:Array Oper) (o:Oper):KD:=match lE E o.op,yG E o.op,eH E o.op with
 | true,_,_=>.free
 | _,true,_=>.quiet
 | _,_,true=>.ask
 | _,_,_=>match o.op with
  | .alloc _=>match o.guard with
   | none=>.alloc
   | some _=>.wN
  | .store _ a _=>match o.guard with
   | none=>match BIE ops a||(M&&BBR ops) with
    | true=>.new
    | false=>.old
   | some _=>.wN
  | .call c=>match c.callee with
   | .builtin .append=>.app
   | .value (.func f)=>match E f with
    | some (.fresh _)=>.mk
    | some (.N4 _)=>.mk
    | some (.dup _ _)=>.mk
    | some (.part _ _)=>.mk
    | _=>.wN
   | _=>.wN
  | _=>.wN
def BH5 (x:Option Fn):Prop:=(∃ g,x=some (.fresh g))\/(∃ g,x=some (.N4 g))\/(∃ z y,x=some (.dup z y))\/∃ c g,x=some (.part c g)
def gM (M:Bool) (P:Program) (E:Env) (ops:Array Oper) (base:Nat) (j:Nat) (o:Oper) (s:Nat->D) (σ:Nat->Option bE) (n:Nat):Option (D×(Nat->Option bE)×Nat) :=
 match cD M E ops o with
 | .free=>(iC P E ops n σ s o).map λd=>(d,σ,n)
 | .quiet=>(iC P E ops n (wF base σ) s o).map λd=>(d,σ,n)
 | .alloc=>match o.op with
  | .alloc e=>((tz? P e).bind λz=>pD (z.cells.toList.map λv=>.p (.v v))).map λb=>(.ptr (base+j) 0 0,cC σ (base+j) (some b),n)
  | _=>none
 | .new=>match o.op with
  | .store t a v=>match ev (cL true s) a with
   | .ptr k x y=>match decide (base<=k) with
    | true=>(j4 P σ t (.ptr k x y) (ev (cL true s) v)).map λσ'=>(.p (.v undef),σ',n)
    | false=>none
   | _=>none
  | _=>none
 | .ask=>(iC P E ops n σ s o).map λd=>(d,σ,n)
 | .app=>match fT ops s o with
  | some true=>match o.op with
   | .call c=>match c.args.toList,c.argTypes.toList with
    | [x,y],[t,u]=>(jH P σ n t u (ev (cL true s) x) (ev (cL true s) y)).map λr=>(r.1,r.2,n+1)
    | _,_=>none
   | _=>none
  | some false=>some (.p (.v undef),σ,n)
  | none=>none
 | .mk=>match fT ops s o with
  | some true=>nv P E σ (cL true s) n o.op
  | some false=>some (.p (.v undef),σ,n)
  | none=>none
 | .old=>match o.op with
  | .store t a v=>(j4 P σ t (ev (cL true s) a) (ev (cL true s) v)).map λσ'=>(.p (.v undef),σ',n)
  | _=>none
 | .wN=>match fT ops s o with
  | some true=>match nv P E σ (cL true s) n o.op with
   | some r=>match Nat.ble n r.2.2 with
    | true=>some r
    | false=>none
   | none=>none
  | some false=>some (.p (.v undef),σ,n)
  | none=>none
def hO (M:Bool) (P:Program) (E:Env) (nt:Nat) (ops:Array Oper) (base:Nat) (j:Nat) (o:Oper) (st:St):Option St :=
 (gM M P E ops base j o st.s st.σ st.n).bind λx=>rM nt st o.dst x.1 x.2.1 x.2.2
def U8 (M:Bool) (P:Program) (E:Env) (nt:Nat) (ops:Array Oper) (base:Nat):List Nat->St->Option St
 | [],st=>some st
 | k::r,st=>match ops[k]? with
  | some o=>(hO M P E nt ops base k o st).bind (U8 M P E nt ops base r)
  | none=>none
section
variable {M : Bool} {cx : Cx} {nt : Nat} {E : Env} {ops : Array Oper} {base : Nat}
def nZ {o:Oper}:(cD M E ops o = .free/\lE E o.op=true)\/(cD M E ops o = .quiet/\yG E o.op=true)\/cD M E ops o = .ask\/(cD M E ops o = .alloc/\o.guard=none/\∃ e,o.op = .alloc e) \/
  ((cD M E ops o = .new\/cD M E ops o = .old)/\o.guard=none/\∃ t a v,o.op = .store t a v)\/(cD M E ops o = .app/\∃ c,o.op = .call c/\c.callee = .builtin .append)\/cD M E ops o = .wN\/(cD M E ops o = .mk/\∃ c f,o.op = .call c/\c.callee = .value (.func f)/\BH5 (E f)):=by
 unfold cD;split
 ·rename_i h;exact .inl ⟨rfl,h⟩
 ·rename_i h _;exact .inr (.inl ⟨rfl,h⟩)
 ·exact .inr (.inr (.inl rfl))
 ·split
  ·rename_i e ho;split
   ·rename_i hg;exact .inr (.inr (.inr (.inl ⟨rfl,hg,e,ho⟩)))
   ·exact .inr (.inr (.inr (.inr (.inr (.inr (.inl rfl))))))
  ·rename_i t a v ho;split
   ·rename_i hg;split
    ·exact .inr (.inr (.inr (.inr (.inl ⟨.inl rfl,hg,t,a,v,ho⟩))))
    ·exact .inr (.inr (.inr (.inr (.inl ⟨.inr rfl,hg,t,a,v,ho⟩))))
   ·exact .inr (.inr (.inr (.inr (.inr (.inr (.inl rfl))))))
  ·rename_i c ho;split
   ·rename_i hc;exact .inr (.inr (.inr (.inr (.inr (.inl ⟨rfl,c,ho,hc⟩)))))
   ·rename_i f hc;split
    ·rename_i g hg;exact .inr (.inr (.inr (.inr (.inr (.inr (.inr ⟨rfl,c,f,ho,hc,.inl ⟨g,hg⟩⟩))))))
    ·rename_i g hg;exact .inr (.inr (.inr (.inr (.inr (.inr (.inr ⟨rfl,c,f,ho,hc,.inr (.inl ⟨g,hg⟩)⟩))))))
    ·rename_i z y hg;exact .inr (.inr (.inr (.inr (.inr (.inr (.inr ⟨rfl,c,f,ho,hc,.inr (.inr (.inl ⟨z,y,hg⟩))⟩))))))
    ·rename_i z y hg;exact .inr (.inr (.inr (.inr (.inr (.inr (.inr ⟨rfl,c,f,ho,hc,.inr (.inr (.inr ⟨z,y,hg⟩))⟩))))))
    ·exact .inr (.inr (.inr (.inr (.inr (.inr (.inl rfl))))))
   ·exact .inr (.inr (.inr (.inr (.inr (.inr (.inl rfl))))))
  ·exact .inr (.inr (.inr (.inr (.inr (.inr (.inl rfl))))))
def HO {o:Oper} (h:cD M E ops o = .free):lE E o.op=true:=by
 rcases nZ (M:=M) (E:=E) (ops:=ops) (o:=o) with h'|h'|h'|h'|⟨h'|h',_⟩|h'|h'|h'<;>simp_all
def vN {o:Oper} (h:cD M E ops o = .quiet):yG E o.op=true:=by
 rcases nZ (M:=M) (E:=E) (ops:=ops) (o:=o) with h'|h'|h'|h'|⟨h'|h',_⟩|h'|h'|h'<;>simp_all
def rC {o:Oper} (h:cD M E ops o = .alloc):o.guard=none/\∃ e,o.op = .alloc e:=by
 rcases nZ (M:=M) (E:=E) (ops:=ops) (o:=o) with h'|h'|h'|h'|⟨h'|h',_⟩|h'|h'|h'<;>simp_all
def OO {o:Oper} (h:cD M E ops o = .new\/cD M E ops o = .old):o.guard=none/\∃ t a v,o.op = .store t a v:=by
 rcases nZ (M:=M) (E:=E) (ops:=ops) (o:=o) with h'|h'|h'|h'|⟨h'|h',h''⟩|h'|h'|h'
 ·rcases h with h|h<;>rw[h'.1] at h<;>cases h
 ·rcases h with h|h<;>rw[h'.1] at h<;>cases h
 ·rcases h with h|h<;>rw[h'] at h<;>cases h
 ·rcases h with h|h<;>rw[h'.1] at h<;>cases h
 ·exact h''
 ·exact h''
 ·rcases h with h|h<;>rw[h'.1] at h<;>cases h
 ·rcases h with h|h<;>rw[h'] at h<;>cases h
 ·rcases h with h|h<;>rw[h'.1] at h<;>cases h
def AMA {o:Oper} (h:cD M E ops o = .mk):∃ c f,o.op = .call c/\c.callee = .value (.func f)/\BH5 (E f):=by
 rcases nZ (M:=M) (E:=E) (ops:=ops) (o:=o) with h'|h'|h'|h'|⟨h'|h',_⟩|h'|h'|h'
 ·rw[h'.1] at h;cases h
 ·rw[h'.1] at h;cases h
 ·rw[h'] at h;cases h
 ·rw[h'.1] at h;cases h
 ·rw[h'] at h;cases h
 ·rw[h'] at h;cases h
 ·rw[h'.1] at h;cases h
 ·rw[h'] at h;cases h
 ·exact h'.2
def BBM {o:Oper} (h:cD M E ops o = .mk):eH E o.op=false:=by
 unfold cD at h;split at h
 ·cases h
 ·cases h
 ·cases h
 ·rename_i h1 h2 h3;cases hq:eH E o.op with
  | false=>rfl
  | true=>exact absurd hq h3
def A3J {o:Oper} (h:cD M E ops o = .ask):eH E o.op=true:=by
 unfold cD at h;split at h
 ·cases h
 ·cases h
 ·rename_i hq _ _;exact hq
 ·split at h
  ·split at h<;>cases h
  ·split at h
   ·split at h<;>cases h
   ·cases h
  ·split at h
   ·cases h
   ·split at h<;>cases h
   ·cases h
  ·cases h
def ACT {o:Oper} (h:cD M E ops o = .app):∃ c,o.op = .call c/\c.callee = .builtin .append:=by
 rcases nZ (M:=M) (E:=E) (ops:=ops) (o:=o) with h'|h'|h'|h'|⟨h'|h',_⟩|h'|h'|h'<;>simp_all
variable {P:Program}
def NK {j:Nat} {o:Oper} {s s':Nat->D} {n:Nat} (h:∀ t∈o.looksAt ops,s t=s' t):gM M P E ops base j o s σ n=gM M P E ops base j o s' σ n:=by
 unfold gM;have hs:∀ x∈o.op.operands,ev (cL true s) x=ev (cL true s') x:=λx hx=>D9 λt ht=>by
  subst ht;simp only[cL];rw[h t (by simp[Oper.looksAt];exact .inl ⟨.tmp t,by simpa using hx,rfl⟩)]
 cases cD M E ops o with
 | free=>simp only;rw[kM h]
 | quiet=>simp only;rw[kM h]
 | alloc=>rfl
 | new =>
  cases ho:o.op<;>try rfl
  rename_i t a v;rw[ho] at hs;simp only;rw[hs a (by simp[Op.operands]),hs v (by simp[Op.operands])]
 | ask=>simp only;rw[kM h]
 | app =>
  simp only;rw[nC h];cases fT ops s' o with
  | none=>rfl
  | some b =>
   cases b with
   | false=>rfl
   | true =>
    cases ho:o.op<;>try rfl
    rename_i c;rw[ho] at hs;simp only;split
    ·rename_i x y t u ha hat;rw[hs x (by simp[Op.operands,Call.operands,<-Array.mem_toList_iff,ha]),hs y (by simp[Op.operands,Call.operands,<-Array.mem_toList_iff,ha])]
    ·rfl
 | old =>
  cases ho:o.op<;>try rfl
  rename_i t a v;rw[ho] at hs;simp only;rw[hs a (by simp[Op.operands]),hs v (by simp[Op.operands])]
 | mk =>
  simp only;rw[nC h,O0 hs]
 | wN =>
  simp only;rw[nC h,O0 hs]
def AK2 {t:TypeId} {k x y:Nat} {v:D} (h:j4 P σ t (.ptr k x y) v=some σ'):∃ b,σ'=cC σ k (some b):=by
 unfold j4 at h;simp only at h;split at h
 ·split at h
  ·split at h
   ·cases h;exact ⟨_,rfl⟩
   ·cases h
  ·cases h
 ·split at h
  ·split at h
   ·cases h;exact ⟨_,rfl⟩
   ·cases h
  ·cases h
 ·cases h
def p8 {j:Nat} {o:Oper} {s:Nat->D} {n:Nat} (h:cD M E ops o = .free):gM M P E ops base j o s σ n=(iC P E ops n σ s o).map λd=>(d,σ,n):=by
 unfold gM;rw[h]
def lZ {j:Nat} {o:Oper} {s:Nat->D} {n:Nat} (h:cD M E ops o = .quiet):gM M P E ops base j o s σ n=(iC P E ops n (wF base σ) s o).map λd=>(d,σ,n):=by
 unfold gM;rw[h]
def D4 {j:Nat} {o:Oper} {s:Nat->D} {n:Nat} (h:cD M E ops o = .ask):gM M P E ops base j o s σ n=(iC P E ops n σ s o).map λd=>(d,σ,n):=by
 unfold gM;rw[h]
variable {n':Nat}
def SG {c:Call} {f:FuncId} (hc:c.callee = .value (.func f)) (hg:BH5 (E f)) {s:Nat->D} {n:Nat} {d:D} (h:nv P E σ s n (.call c)=some (d,σ',n')) :
  n'=n+1/\(∀ k,k≠n->σ' k=σ k):=by
 simp only[nv,hc,Z3] at h;split at h
 case h_2 =>
  rcases hg with ⟨g,hg⟩|⟨g,hg⟩|⟨z,y,hg⟩|⟨z,y,hg⟩<;>simp[qS,ev,j5,hg] at h
 rename_i r hcf;cases h;replace h:=hcf;clear hcf;unfold nO at h;rcases hg with ⟨g,hg⟩|⟨g,hg⟩|⟨z,y,hg⟩|⟨z,y,hg⟩
 ·simp only[ev,j5,hg] at h;split at h
  ·split at h
   ·split at h
    ·cases h;exact ⟨rfl,λ_ _=>rfl⟩
    ·cases h;exact ⟨rfl,λk hk=>bK _ _ hk⟩
   ·cases h
  ·split at h
   ·split at h
    ·split at h
     ·cases h;exact ⟨rfl,λk hk=>bK _ _ hk⟩
     ·cases h
    ·cases h
   ·cases h
 ·simp only[ev,j5,hg] at h;split at h
  ·split at h
   ·cases h;exact ⟨rfl,λ_ _=>rfl⟩
   ·split at h
    ·cases h;exact ⟨rfl,λk hk=>bK _ _ hk⟩
    ·cases h
   ·cases h
  ·cases h
 ·simp only[ev,j5,hg] at h;unfold CJ at h;split at h
  ·split at h
   ·split at h
    ·cases h;exact ⟨rfl,λk hk=>bK _ _ hk⟩
    ·cases h
   ·cases h
  ·split at h
   ·split at h
    ·cases h;exact ⟨rfl,λk hk=>bK _ _ hk⟩
    ·cases h
   ·cases h
  ·cases h
 ·simp only[ev,j5,hg] at h;split at h
  ·split at h
   ·split at h
    ·cases h;exact ⟨rfl,λk hk=>bK _ _ hk⟩
    ·cases h
   ·cases h
  ·cases h
def D5 {j:Nat} {o:Oper} {s:Nat->D} {n:Nat} {d:D} (hb:base<=n) (hk:cD M E ops o = .quiet\/cD M E ops o = .alloc\/cD M E ops o = .new\/cD M E ops o = .mk) (h:gM M P E ops base j o s σ n=some (d,σ',n')):∀ k,k<base->σ' k=σ k:=by
 unfold gM at h;rcases hk with hk|hk|hk|hk
 ·rw[hk] at h;simp only[aa,Prod.mk.injEq] at h;obtain ⟨_,_,_,rfl,rfl⟩:=h;exact λ_ _=>rfl
 ·rw[hk] at h;simp only at h;split at h
  ·simp only[aa,Prod.mk.injEq] at h;obtain ⟨_,_,_,rfl,rfl⟩:=h;exact λk hk=>bK _ _ (by omega)
  ·cases h
 ·rw[hk] at h;simp only at h;split at h
  ·split at h
   ·split at h
    ·rename_i hb;have hb:=of_decide_eq_true hb;simp only[aa,Prod.mk.injEq] at h;obtain ⟨σ'',h1,_,rfl,rfl⟩:=h;obtain ⟨b,rfl⟩:=AK2 h1;exact λk hk=>bK _ _ (by omega)
    ·cases h
   ·cases h
  ·cases h
 ·obtain ⟨c,f,ho,hc,hg⟩:=AMA hk;rw[hk] at h;simp only at h;split at h
  ·rw[ho] at h;obtain ⟨_,h2⟩:=SG hc hg h;exact λk hk=>h2 k (by omega)
  ·cases h;exact λ_ _=>rfl
  ·cases h
def ZW {n:Nat} {t u:TypeId} {s x d:D} (hn:base<=n) (h:jH P σ n t u s x=some (d,σ')):∀ k b,k<base->σ' k=some b->σ k=some b:=by
 have key:∀ (k₀:Nat) (b0:Option bE),∀ k b,k<base->cC (cC σ k₀ none) n b0 k=some b->σ k=some b:=λk₀ b0 k b hk hb=>by
  rw[bK _ _ (by omega)] at hb;by_cases e:k=k₀
  ·subst e;simp at hb
  ·rw[bK _ _ e] at hb;exact hb
 have key1:∀ (b0:Option bE),∀ k b,k<base->cC σ n b0 k=some b->σ k=some b:=λb0 k b hk hb=>by
  rw[bK _ _ (by omega)] at hb;exact hb
 unfold jH at h;split at h
 ·split at h
  ·split at h
   ·split at h
    ·split at h
     ·split at h
      ·split at h
       ·cases h;exact key1 _
       ·cases h
      ·split at h
       ·cases h;exact λk b _ hb=>hb
       ·split at h
        ·cases h;exact key1 _
        ·cases h
      ·cases h
     ·split at h
      ·split at h
       ·cases h;exact key _ _
       ·cases h
      ·cases h
     ·cases h
    ·cases h
   ·cases h
  ·cases h
 ·unfold u6 at h;split at h
  ·split at h
   ·split at h
    ·split at h
     ·split at h
      ·split at h
       ·cases h;exact key _ _
       ·cases h
      ·cases h
     ·split at h
      ·split at h
       ·cases h;exact λk b _ hb=>hb
       ·split at h
        ·cases h;exact λk b _ hb=>hb
        ·cases h
      ·cases h
     ·cases h
    ·cases h
   ·cases h
  ·cases h
def A0A {j:Nat} {o:Oper} {s:Nat->D} {n:Nat} {d:D} (hk:cD M E ops o = .app) (hn:base<=n) (h:gM M P E ops base j o s σ n=some (d,σ',n')):∀ k b,k<base->σ' k=some b->σ k=some b:=by
 unfold gM at h;rw[hk] at h;simp only at h;split at h
 ·split at h
  ·split at h
   ·simp only[aa,Prod.mk.injEq] at h;obtain ⟨⟨d',σ''⟩,h1,_,rfl,rfl⟩:=h;exact ZW hn h1
   ·cases h
  ·cases h
 ·cases h;exact λ_ _ _ h=>h
 ·cases h
def BFW {j:Nat} {o:Oper} {s:Nat->D} {n:Nat} {d:D} (h:gM M P E ops base j o s σ n=some (d,σ',n')):n<=n':=by
 unfold gM at h;cases hk:cD M E ops o with
 | free=>rw[hk] at h;simp only[aa,Prod.mk.injEq] at h;obtain ⟨_,_,_,_,rfl⟩:=h;exact al _
 | quiet=>rw[hk] at h;simp only[aa,Prod.mk.injEq] at h;obtain ⟨_,_,_,_,rfl⟩:=h;exact al _
 | ask=>rw[hk] at h;simp only[aa,Prod.mk.injEq] at h;obtain ⟨_,_,_,_,rfl⟩:=h;exact al _
 | alloc =>
  rw[hk] at h;simp only at h;split at h
  ·simp only[aa,Prod.mk.injEq] at h;obtain ⟨_,_,_,_,rfl⟩:=h;exact al _
  ·cases h
 | new =>
  rw[hk] at h;simp only at h;split at h
  ·split at h
   ·split at h
    ·simp only[aa,Prod.mk.injEq] at h;obtain ⟨_,_,_,_,rfl⟩:=h;exact al _
    ·cases h
   ·cases h
  ·cases h
 | app =>
  rw[hk] at h;simp only at h;split at h
  ·split at h
   ·split at h
    ·simp only[aa,Prod.mk.injEq] at h;obtain ⟨_,_,_,_,rfl⟩:=h;exact Nat.le_succ _
    ·cases h
   ·cases h
  ·cases h;exact al _
  ·cases h
 | mk =>
  obtain ⟨c,f,ho,hc,hg⟩:=AMA hk;rw[hk] at h;simp only at h;split at h
  ·rw[ho] at h;obtain ⟨h1,_⟩:=SG hc hg h;omega
  ·cases h;exact al _
  ·cases h
 | old =>
  rw[hk] at h;simp only at h;split at h
  ·simp only[aa,Prod.mk.injEq] at h;obtain ⟨_,_,_,_,rfl⟩:=h;exact al _
  ·cases h
 | wN =>
  rw[hk] at h;simp only at h;split at h
  ·split at h
   ·split at h
    ·rename_i hb;cases h;exact Nat.le_of_ble_eq_true hb
    ·cases h
   ·cases h
  ·cases h;exact al _
  ·cases h
variable {σ₀:Nat->Option bE}
def DF (h:DU σ₀ σ) {n:Nat} {s:Nat->D} {o:Oper} {d:D} (hq:yG E o.op=true) (hr:iC P E ops n σ₀ s o=some d):iC P E ops n' σ s o=some d:=by
 unfold iC at hr ⊢;split at hr
 ·cases hr
 ·rename_i hg;try rw[hg]
  exact hr
 ·rename_i hg;try rw[hg]
  exact BCS h hq hr
def PD {n:Nat} {s:Nat->D} {o:Oper} (hf:lE E o.op=true):iC P E ops n σ s o=iC P E ops n' σ₀ s o:=by
 unfold iC;cases fT ops s o with
 | none=>rfl
 | some c=>cases c<;>simp only[WN hf n n' σ σ₀]
variable {st st':St}{ρ:Nat->Option Loc}{K:Act->World->Prop}
def AD7 {j:Nat} (hE:aR cx.P E) {a:Act} {w:World} (h:Rel cx nt ρ st a w) {o:Oper} (hjs:j<ops.size) (hjn:base+ops.size<=st.n) (hfree:cD M E ops o = .alloc->ρ (base+j)=none) (hs:hO M cx.P E nt ops base j o st=some st') {Q:Exit->Act->World->Prop}
  (hK:∀ ρ' a' w',Rel cx nt ρ' st' a' w'->(cD M E ops o≠.wN->cD M E ops o≠.mk->∀ i,i<base+ops.size->i≠base+j->ρ' i=ρ i)->K a' w'):if Region.wanted o (yielded ops a.tmps) then o.wp cx.P a w K Q else K (a.put o.dst undef) w:=by
 unfold hO at hs;simp only[Option.bind_eq_some_iff] at hs;obtain ⟨⟨d,σ',n'⟩,he,hp⟩:=hs;have quiet:∀ d',iC cx.P E ops st.n st.σ st.s o=some d'->(d',st.σ,st.n)=(d,σ',n')->if Region.wanted o (yielded ops a.tmps) then o.wp cx.P a w K Q else K (a.put o.dst undef) w:=by
  intro d' hq he;cases he;unfold iC at hq;split at hq
  ·cases hq
  ·rename_i hc;rw[eY h hc];simp only[Bool.false_eq_true,if_false];cases hq;exact hK ρ _ w (fA h hp h.inv (bQ.refl _ _ _ _) (.p _ _ (.v _))) λ_ _ _ _ _=>rfl
  ·rename_i hc;rw[eY h hc];simp only[if_true];refine ADP hE h.inv h.oO h.ev0 (h.evS) hq λv w' hb hv=>hK ρ _ w' ?_ λ_ _ _ _ _=>rfl;exact fA h hp (h.inv.grow hb (al _)) (bQ.gY hb) hv
 have store:∀ {t:TypeId} {x y:Operand} {σ'':Nat->Option bE},o.guard=none->o.op = .store t x y->j4 cx.P st.σ t (ev (cL true st.s) x) (ev (cL true st.s) y)=some σ''->((.p (.v undef):D),σ'',st.n)=(d,σ',n')->if Region.wanted o (yielded ops a.tmps) then o.wp cx.P a w K Q else K (a.put o.dst undef) w:=by
  intro t x y σ'' hg ho hst he;cases he;have hw:Region.wanted o (yielded ops a.tmps)=true:=by simp[Region.wanted,hg]
  rw[hw];simp only[if_true];obtain ⟨w',h1,h2,h3⟩:=TT h.inv (h.evS x) (h.evS y) hst;unfold Oper.wp;have hx:(execOp a.eval o).run cx.P w = .ok .skip w':=by
   simp only[execOp,ho,Sem.run_bind,h1,Result.andThen_ok,Sem.run_pure]
  rw[hx];exact hK ρ _ w' (fA h hp h2 h3 (v:=undef) (.p _ _ (.v _))) λ_ _ _ _ _=>rfl
 cases hk:cD M E ops o with
 | free =>
  rw[p8 hk] at he;simp only[aa] at he;obtain ⟨d',hq,he⟩:=he;exact quiet d' hq he
 | quiet =>
  rw[lZ hk] at he;simp only[aa] at he;obtain ⟨d',hq,he⟩:=he;exact quiet d' (DF (ASF λ_ _ _ h=>h) (vN hk) hq) he
 | alloc =>
  obtain ⟨hg,e,ho⟩:=rC hk;unfold gM at he;rw[hk] at he;simp only[ho] at he;have hw:Region.wanted o (yielded ops a.tmps)=true:=by simp[Region.wanted,hg]
  rw[hw];simp only[if_true];simp only[aa,Option.bind_eq_some_iff,Prod.mk.injEq] at he;obtain ⟨b,⟨z,hz,hb⟩,rfl,rfl,rfl⟩:=he;obtain ⟨ρ',h0,h1,h2,h3,h4⟩:=JM h.inv (n':=st.n) (k:=base+j) (al _) (by omega) (λi l' hi e=>by subst e;rw[hfree hk] at hi;cases hi) (dJ.vs (R:=Rd w (Own cx ρ st.σ) ρ) (g:=λv=>.p (.v v)) (λv=>.p _ _ (.v v)) z.cells) hb e;unfold Oper.wp;have hx:(execOp a.eval o).run cx.P w = .ok (.value (.pointer (some ⟨w.heap.size,0,none⟩))) (w.alloc (.cells z.cells e)):=by
   simp only[execOp,ho,Instr.alloc,Sem.run_bind,run_zero? w hz,Result.andThen_ok,newVar,h1,Sem.run_pure]
  rw[hx];exact hK ρ' _ _ (fA h hp h2 h3 h4) λ_ _ i _ hi=>h0 i hi
 | new =>
  obtain ⟨hg,t,x,y,ho⟩:=OO (.inl hk);unfold gM at he;rw[hk] at he;simp only[ho] at he;split at he
  ·rename_i k i1 i2 hev;split at he
   ·simp only[aa] at he;obtain ⟨σ'',hst,he⟩:=he;rw[<-hev] at hst;exact store hg ho hst he
   ·cases he
  ·cases he
 | old =>
  obtain ⟨hg,t,x,y,ho⟩:=OO (.inr hk);unfold gM at he;rw[hk] at he;simp only[ho,aa] at he;obtain ⟨σ'',hst,he⟩:=he;exact store hg ho hst he
 | ask =>
  rw[D4 hk] at he;simp only[aa] at he;obtain ⟨d',hq,he⟩:=he;exact quiet d' hq he
 | app =>
  obtain ⟨c,ho,hc⟩:=ACT hk;unfold gM at he;rw[hk] at he;simp only at he;split at he
  ·rename_i hg;rw[eY h hg];simp only[if_true];simp only[ho] at he;split at he
   ·rename_i x y t u ha hat;simp only[aa] at he;obtain ⟨⟨d',σ''⟩,h5,he⟩:=he;cases he;have ex:c.args = #[x,y]:=by rw[<-Array.toList_inj];exact ha
    have et:c.argTypes = #[t,u]:=by rw[<-Array.toList_inj];exact hat
    obtain ⟨v,w',ρ',h0,h1,h2,h3,h4⟩:=I5 (ty:=o.type) h.inv (al _) (h.evS x) (h.evS y) h5;have hx:(execOp a.eval o).run cx.P w = .ok (.value v) w':=by
     simp[execOp,ho,resolve,hc,ex,et,invoke,builtin,h1]
    unfold Oper.wp;rw[hx];exact hK ρ' _ w' (fA h hp h2 h3 h4) λ_ _ i hi _=>h0 i (by omega)
   ·cases he
  ·rename_i hg;rw[eY h hg];simp only[Bool.false_eq_true,if_false];cases he;exact hK ρ _ w (fA h hp h.inv (bQ.refl _ _ _ _) (.p _ _ (.v _))) λ_ _ _ _ _=>rfl
  ·cases he
 | mk =>
  unfold gM at he;rw[hk] at he;simp only at he;split at he
  ·rename_i hg;rw[eY h hg];simp only[if_true];refine ADD hE h.inv h.oO h.evS he λv w' ρ' hi hkp hv=>hK ρ' _ w' (fA h hp hi hkp hv) λ_ hn=>absurd hk hn
  ·rename_i hg;rw[eY h hg];simp only[Bool.false_eq_true,if_false];cases he;exact hK ρ _ w (fA h hp h.inv (bQ.refl _ _ _ _) (.p _ _ (.v _))) λ_ _ _ _ _=>rfl
  ·cases he
 | wN =>
  unfold gM at he;rw[hk] at he;simp only at he;split at he
  ·rename_i hg;rw[eY h hg];simp only[if_true];split at he
   ·rename_i r hr;split at he
    ·cases he;refine ADD hE h.inv h.oO h.evS hr λv w' ρ' hi hkp hv=>hK ρ' _ w' (fA h hp hi hkp hv) λhn _=>absurd hk hn
    ·cases he
   ·cases he
  ·rename_i hg;rw[eY h hg];simp only[Bool.false_eq_true,if_false];cases he;exact hK ρ _ w (fA h hp h.inv (bQ.refl _ _ _ _) (.p _ _ (.v _))) λ_ _ _ _ _=>rfl
  ·cases he
def QO (M:Bool) (P:Program) (E:Env) (nt:Nat) (ops:Array Oper) (base:Nat) (Q:St->Prop):Nat->Array Bool->St->Prop
 | 0,listed,st=>Region.ready .any ops listed=[]/\Q st
 | f+1,listed,st=>(Region.ready .any ops listed=[]->Q st)/\∀ i∈Region.ready .any ops listed,∃ o st',ops[i]? = some o/\hO M P E nt ops base i o st=some st'/\QO M P E nt ops base Q f (listed.setIfInBounds i true) st'
def wA {j:Nat} {o:Oper} (h:hO M P E nt ops base j o st=some st'):st.n<=st'.n:=by
 unfold hO at h;simp only[Option.bind_eq_some_iff] at h;obtain ⟨⟨d,σ',n'⟩,he,hp⟩:=h;obtain ⟨_,rfl⟩:=sD hp;exact BFW he
def ASJ (M:Bool) (E:Env) (ops:Array Oper):Bool:=(ops.toList.all λo=>match cD M E ops o with
  | .wN=>false
  | .mk=>false
  | _=>true)||(ops.toList.all λo=>match cD M E ops o with
  | .alloc=>false
  | _=>true)
def ASK (h:ASJ M E ops=true):(∀ (i:Nat) (o:Oper),ops[i]? = some o->cD M E ops o≠.wN/\cD M E ops o≠.mk)\/(∀ (i:Nat) (o:Oper),ops[i]? = some o->cD M E ops o≠.alloc):=by
 unfold ASJ at h;simp only[Bool.or_eq_true,all_eq_true] at h;rcases h with h|h
 ·exact .inl λi o ho=>⟨λhk=>(by have:=h o (by rw[Array.mem_toList_iff];exact Array.mem_of_getElem? ho);rw[hk] at this;cases this),λhk=>(by have:=h o (by rw[Array.mem_toList_iff];exact Array.mem_of_getElem? ho);rw[hk] at this;cases this)⟩
 ·exact .inr λi o ho hk=>by have:=h o (by rw[Array.mem_toList_iff];exact Array.mem_of_getElem? ho);rw[hk] at this;cases this
def KC (hmx:ASJ M E ops=true) (hE:aR cx.P E) {Q:St->Prop} {Q':Exit->Act->World->Prop} (hQ:∀ st ρ a w,Q st->Rel cx nt ρ st a w->Q' .normal a w):∀ (f:Nat) (listed:Array Bool) (st:St) (ρ:Nat->Option Loc) (a:Act) (w:World),Rel cx nt ρ st a w ->
  listed.size=ops.size->base+ops.size<=st.n->((∀ (i:Nat) (o:Oper),ops[i]? = some o->cD M E ops o≠.wN/\cD M E ops o≠.mk)->∀ i,i<ops.size->(∃ o,ops[i]? = some o/\cD M E ops o = .alloc)->listed.getD i true=false->ρ (base+i)=none)->QO M cx.P E nt ops base Q f listed st->wpAny cx.P .any ops Q' f listed a w
 | 0,_,st,ρ,a,w,hr,_,_,_,h=>⟨h.1,hQ st ρ a w h.2 hr⟩
 | f+1,listed,st,ρ,a,w,hr,hsz,hn,hfr,h=>by
  refine ⟨λh0=>hQ st ρ a w (h.1 h0) hr,λi hi=>?_⟩;obtain ⟨o,st',h0,h1,h2⟩:=h.2 i hi;have hil:i<ops.size:=(Array.getElem?_eq_some_iff.1 h0).1;have hun:=(mem_ready.1 hi).1;have hun':listed.getD i true=false:=hun;unfold wpOp;simp only[h0];have:=AD7 (Q:=Q') hE hr hil hn (λhka=>by
   rcases ASK hmx with hl|ha
   ·exact hfr hl i hil ⟨o,h0,hka⟩ hun'
   ·exact absurd hka (ha i o h0)) h1 (K:=wpAny cx.P .any ops Q' f (listed.setIfInBounds i true)) (λρ' a' w' hr' hρ=>KC hmx hE hQ f _ st' ρ' a' w' hr' (by simpa using hsz) (Nat.le_trans hn (wA h1)) (λhl k hk hka hkl=>by
   have hki:k≠i:=by
    rintro rfl;rw[show (listed.setIfInBounds k true).getD k true=true by simp[show k<listed.size by omega]] at hkl;cases hkl
   rw[getD_set_ne true (Ne.symm hki)] at hkl;rw[hρ (hl i o h0).1 (hl i o h0).2 _ (by omega) (by omega)];exact hfr hl k hk hka hkl) h2)
  split
  ·rename_i hw;simp only[hw,if_true] at this;exact .inl this
  ·rename_i hw;simp only[hw] at this;exact this
def UW:KD->KD->Bool
 | .free,_=>true
 | _,.free=>true
 | .quiet,.quiet=>true
 | .quiet,.ask=>true
 | .ask,.quiet=>true
 | .ask,.ask=>true
 | .quiet,.alloc=>true
 | .quiet,.new=>true
 | .quiet,.mk=>true
 | .mk,.quiet=>true
 | .alloc,.quiet=>true
 | .new,.quiet=>true
 | .app,.quiet=>true
 | .alloc,.alloc=>true
 | _,_=>false
def TG (M:Bool) (E:Env) (ops:Array Oper) (ms:List Nat) (k j:Nat):Bool :=
 (ms.getD j 0).testBit k||(match ops[k]?,ops[j]? with
  | some a,some b=>a.apart ops b&&UW (cD M E ops a) (cD M E ops b)
  | _,_=>false)
def rF (M:Bool) (E:Env) (ops:Array Oper) (ms:List Nat):List Nat->Array Bool->Bool
 | [],listed=>(Region.ready .any ops listed).isEmpty
 | k::l,listed=>(Region.ready .any ops listed).contains k&&(range ops.size).all (λj=>decide (j=k)||listed.getD j true||TG M E ops ms k j)&&rF M E ops ms l (listed.setIfInBounds k true)
def isApp (M:Bool) (E:Env) (ops:Array Oper) (j:Nat):Bool:=match ops[j]? with
 | some o=>match cD M E ops o with
  | .app=>true
  | _=>false
 | none=>false
def DZ (M:Bool) (E:Env) (ops:Array Oper):List Nat:=match (range ops.size).filter (isApp M E ops) with
 | []=>range ops.size
 | js=>(λms:List Nat=>(range ops.size).filter (λk=>js.any λj=>decide (j=k)||(ms.getD j 0).testBit k)++(range ops.size).filter (λk=>!js.any λj=>decide (j=k)||(ms.getD j 0).testBit k)) (wG ops.toList [])
def sZ (M:Bool) (E:Env) (ops:Array Oper):Bool:=ASJ M E ops&&decide ((DZ M E ops).length=ops.size)&&rF M E ops (wG ops.toList []) (DZ M E ops) (Array.replicate ops.size false)
variable {oi:Oper}
def BD4 {i j:Nat} {oj:Oper} {st₁ st₂:St} (hb:base<=st.n) (hij:i≠j) (hap:oi.apart ops oj=true) (hal:UW (cD M E ops oi) (cD M E ops oj)=true)
  (h1:hO M P E nt ops base i oi st=some st₁) (h2:hO M P E nt ops base j oj st₁=some st₂):∃ st₃,hO M P E nt ops base j oj st=some st₃/\hO M P E nt ops base i oi st₃=some st₂:=by
 obtain ⟨a1,a2,a3⟩:=Oper.apart_spec hap;unfold hO at h1 h2;rw[Option.bind_eq_some_iff] at h1 h2;obtain ⟨⟨di,σi,ni⟩,e1,p1⟩:=h1;obtain ⟨⟨dj,σj,nj⟩,e2,p2⟩:=h2;obtain ⟨l1,rfl⟩:=sD p1;obtain ⟨l2,rfl⟩:=sD p2;simp only at e1 e2;have c2:∀ σ n,gM M P E ops base j oj (rO st.s oi.dst di) σ n=gM M P E ops base j oj st.s σ n:=λσ n=>NK λu hu=>by
  cases hd:oi.dst with
  | none=>rfl
  | some t=>exact bK _ _ (λ(eq:u=t)=>a1 t hd (by rw[<-eq];exact hu))
 have cs:∀ u∈oi.looksAt ops,rO st.s oj.dst dj u=st.s u:=λu hu=>by
  cases hd:oj.dst with
  | none=>rfl
  | some t=>exact bK _ _ (λ(eq:u=t)=>a3 t hd (by rw[<-eq];exact hu))
 have c1:∀ σ n,gM M P E ops base i oi (rO st.s oj.dst dj) σ n=gM M P E ops base i oi st.s σ n:=λσ n=>NK cs;have cu:∀ (σ:Nat->Option bE) (n:Nat),(⟨rO (rO st.s oj.dst dj) oi.dst di,σ,n⟩:St)=⟨rO (rO st.s oi.dst di) oj.dst dj,σ,n⟩:=by
  intro σ n;cases hdi:oi.dst with
  | none=>rfl
  | some t =>
   cases hdj:oj.dst with
   | none=>rfl
   | some t' =>
    simp only[rO];rw[F5 _ _ _ (λ(eq:t'=t)=>a2 t hdi (eq ▸ hdj))]
 rw[c2] at e2;have core:∃ σj' nj',gM M P E ops base j oj st.s st.σ st.n=some (dj,σj',nj')/\gM M P E ops base i oi st.s σj' nj'=some (di,σj,nj):=by
  have free_i:cD M E ops oi = .free->∃ σj' nj',gM M P E ops base j oj st.s st.σ st.n=some (dj,σj',nj')/\gM M P E ops base i oi st.s σj' nj'=some (di,σj,nj):=λhk=>by
   rw[p8 hk] at e1;simp only[aa,Prod.mk.injEq] at e1;obtain ⟨d,g1,rfl,rfl,rfl⟩:=e1;refine ⟨σj,nj,e2,?_⟩;rw[p8 hk,PD (σ₀:=st.σ) (n':=st.n) (HO hk),g1];rfl
  have free_j:cD M E ops oj = .free->∃ σj' nj',gM M P E ops base j oj st.s st.σ st.n=some (dj,σj',nj')/\gM M P E ops base i oi st.s σj' nj'=some (di,σj,nj):=λhk=>by
   rw[p8 hk] at e2;simp only[aa,Prod.mk.injEq] at e2;obtain ⟨d,g1,rfl,rfl,rfl⟩:=e2;refine ⟨st.σ,st.n,?_,e1⟩;rw[p8 hk,PD (σ₀:=σi) (n':=ni) (HO hk),g1];rfl
  have quiet_i:cD M E ops oi = .quiet->(cD M E ops oj = .quiet\/cD M E ops oj = .alloc\/cD M E ops oj = .new\/cD M E ops oj = .mk)->∃ σj' nj',gM M P E ops base j oj st.s st.σ st.n=some (dj,σj',nj')/\gM M P E ops base i oi st.s σj' nj'=some (di,σj,nj):=λhk hkj=>by
   rw[lZ hk] at e1;simp only[aa,Prod.mk.injEq] at e1;obtain ⟨d,g1,rfl,rfl,rfl⟩:=e1;have hlow:=D5 hb hkj e2;refine ⟨σj,nj,e2,?_⟩;rw[lZ hk,A30 hlow,DF (λ_ _ h=>h) (vN hk) g1];rfl
  have quiet_j:cD M E ops oj = .quiet->(∀ k b,k<base->σi k=some b->st.σ k=some b)->∃ σj' nj',gM M P E ops base j oj st.s st.σ st.n=some (dj,σj',nj')/\gM M P E ops base i oi st.s σj' nj'=some (di,σj,nj):=λhk hsub=>by
   rw[lZ hk] at e2;simp only[aa,Prod.mk.injEq] at e2;obtain ⟨d,g1,rfl,rfl,rfl⟩:=e2;refine ⟨st.σ,st.n,?_,e1⟩;rw[lZ hk,DF (AIY hsub) (vN hk) g1];rfl
  have ask_j:cD M E ops oj = .ask->σi=st.σ->ni=st.n->∃ σj' nj',gM M P E ops base j oj st.s st.σ st.n=some (dj,σj',nj')/\gM M P E ops base i oi st.s σj' nj'=some (di,σj,nj):=λhk es en=>by
   subst es;subst en;have e2':=e2;rw[D4 hk] at e2;simp only[aa,Prod.mk.injEq] at e2;obtain ⟨d,g1,rfl,rfl,rfl⟩:=e2;exact ⟨st.σ,st.n,e2',e1⟩
  have stay:cD M E ops oi = .quiet\/cD M E ops oi = .ask->σi=st.σ/\ni=st.n:=λhk=>by
   rcases hk with hk|hk
   ·rw[lZ hk] at e1;simp only[aa,Prod.mk.injEq] at e1;obtain ⟨d,g1,rfl,rfl,rfl⟩:=e1;exact ⟨rfl,rfl⟩
   ·rw[D4 hk] at e1;simp only[aa,Prod.mk.injEq] at e1;obtain ⟨d,g1,rfl,rfl,rfl⟩:=e1;exact ⟨rfl,rfl⟩
  cases hki:cD M E ops oi with
  | free=>exact free_i hki
  | ask =>
   obtain ⟨es,en⟩:=stay (.inr hki);cases hkj:cD M E ops oj with
   | free=>exact free_j hkj
   | quiet=>exact quiet_j hkj λk b _ h=>by rw[<-es];exact h
   | ask=>exact ask_j hkj es en
   | _=>rw[hki,hkj] at hal;cases hal
  | quiet =>
   cases hkj:cD M E ops oj with
   | free=>exact free_j hkj
   | quiet=>exact quiet_i hki (.inl hkj)
   | ask=>exact ask_j hkj (stay (.inl hki)).1 (stay (.inl hki)).2
   | alloc=>exact quiet_i hki (.inr (.inl hkj))
   | new=>exact quiet_i hki (.inr (.inr (.inl hkj)))
   | mk=>exact quiet_i hki (.inr (.inr (.inr hkj)))
   | _=>rw[hki,hkj] at hal;cases hal
  | alloc =>
   cases hkj:cD M E ops oj with
   | free=>exact free_j hkj
   | quiet =>
    have hlow:=D5 hb (.inr (.inl hki)) e1;exact quiet_j hkj λk b hk h=>by rw[<-hlow k hk];exact h
   | alloc =>
    obtain ⟨_,e,q3⟩:=rC hki;obtain ⟨_,e',r3⟩:=rC hkj;have ei:∀ σ n,gM M P E ops base i oi st.s σ n=((tz? P e).bind λz=>pD (z.cells.toList.map λv=>.p (.v v))).map λb=>(.ptr (base+i) 0 0,cC σ (base+i) (some b),n):=λσ n=>by unfold gM;rw[hki];simp only[q3]
    have ej:∀ σ n,gM M P E ops base j oj st.s σ n=((tz? P e').bind λz=>pD (z.cells.toList.map λv=>.p (.v v))).map λb=>(.ptr (base+j) 0 0,cC σ (base+j) (some b),n):=λσ n=>by unfold gM;rw[hkj];simp only[r3]
    rw[ei] at e1;rw[ej] at e2;simp only[aa,Prod.mk.injEq] at e1 e2;obtain ⟨bi,g1,rfl,rfl,rfl⟩:=e1;obtain ⟨bj,g2,rfl,rfl,rfl⟩:=e2;refine ⟨cC st.σ (base+j) (some bj),st.n,?_,?_⟩
    ·rw[ej,g2];rfl
    ·rw[ei,g1];simp only[Option.map_some];rw[F5 _ _ _ (show base+j≠base+i by omega)]
   | _=>rw[hki,hkj] at hal;cases hal
  | new =>
   cases hkj:cD M E ops oj with
   | free=>exact free_j hkj
   | quiet =>
    have hlow:=D5 hb (.inr (.inr (.inl hki))) e1;exact quiet_j hkj λk b hk h=>by rw[<-hlow k hk];exact h
   | _=>rw[hki,hkj] at hal;cases hal
  | mk =>
   cases hkj:cD M E ops oj with
   | free=>exact free_j hkj
   | quiet =>
    have hlow:=D5 hb (.inr (.inr (.inr hki))) e1;exact quiet_j hkj λk b hk h=>by rw[<-hlow k hk];exact h
   | _=>rw[hki,hkj] at hal;cases hal
  | app =>
   cases hkj:cD M E ops oj with
   | free=>exact free_j hkj
   | quiet=>exact quiet_j hkj (A0A hki hb e1)
   | _=>rw[hki,hkj] at hal;cases hal
  | old =>
   cases hkj:cD M E ops oj with
   | free=>exact free_j hkj
   | _=>rw[hki,hkj] at hal;cases hal
  | wN =>
   cases hkj:cD M E ops oj with
   | free=>exact free_j hkj
   | _=>rw[hki,hkj] at hal;cases hal
 obtain ⟨σj',nj',k1,k2⟩:=core;refine ⟨⟨rO st.s oj.dst dj,σj',nj'⟩,?_,?_⟩
 ·unfold hO;rw[k1];exact vR l2
 ·unfold hO;simp only;rw[c1,k2];refine (vR l1).trans ?_;exact congrArg some (cu σj nj)
def MO {Q:St->Prop} {i:Nat} (hi:ops[i]? = some oi) :
  ∀ (f:Nat) (listed:Array Bool) (st st₁:St),qP ops listed->base<=st.n ->
   (∀ j oj,ops[j]? = some oj->j≠i->listed.getD j true=false->Reach ops j i\/(UW (cD M E ops oi) (cD M E ops oj)=true/\oi.apart ops oj=true)) ->
   i∈Region.ready .any ops listed->hO M P E nt ops base i oi st=some st₁ ->
   QO M P E nt ops base Q f (listed.setIfInBounds i true) st₁->QO M P E nt ops base Q (f+1) listed st:=by
 intro f
 induction f with
 | zero =>
  intro listed st st₁ _ _ _ hr hs H;refine ⟨λh=>(by rw[h] at hr;cases hr),λj hj=>?_⟩;by_cases hji:j=i
  ·subst hji;exact ⟨oi,st₁,hi,hs,H⟩
  ·have:=ready_mono hj hji;rw[H.1] at this;cases this
 | succ f ih =>
  intro listed st st₁ hc hb hfree hr hs H;refine ⟨λh=>(by rw[h] at hr;cases hr),λj hj=>?_⟩;by_cases hji:j=i
  ·subst hji;exact ⟨oi,st₁,hi,hs,H⟩
  ·obtain ⟨oj,st₂,hoj,h2,H2⟩:=H.2 j (ready_mono hj hji);obtain ⟨hjun,oj',hoj',hall⟩:=mem_ready.1 hj;rw[hoj] at hoj';cases hoj';have hiun:=(mem_ready.1 hr).1;rcases hfree j oj hoj hji hjun with hre|⟨hal,hap⟩
   ·exfalso;have:=hre.listed hc (λo ho e he hb=>by rw[hoj] at ho;cases ho;exact hall e he hb);rcases Nat.lt_or_ge i listed.size with h'|h'
    ·simp[h'] at hiun this;rw[hiun] at this;cases this
    ·simp[Array.getElem?_eq_none h'] at this
   ·obtain ⟨st₃,h3,h4⟩:=BD4 hb (Ne.symm hji) hap hal hs h2;refine ⟨oj,st₃,hoj,h3,ih (listed.setIfInBounds j true) st₃ st₂ (jK hc hj) (Nat.le_trans hb (wA h3)) (λk ok hk hki hun=>?_) (ready_mono hr (Ne.symm hji)) h4 ?_⟩
    ·refine hfree k ok hk hki ?_;by_cases hjk:j=k
     ·subst hjk;exact hjun
     ·rw[getD_set_ne true hjk] at hun;exact hun
    ·rw[Array.setIfInBounds_comm _ _ hji];exact H2
def MQ {P:Program} {Q:St->Prop} {ms:List Nat} (hms:∀ j i,(ms.getD j 0).testBit i=true->Reach ops j i) {st':St} (hQ:Q st'):∀ (l:List Nat) (listed:Array Bool) (st:St),qP ops listed->base<=st.n ->
  rF M E ops ms l listed=true->U8 M P E nt ops base l st=some st'->QO M P E nt ops base Q l.length listed st
 | [],_,_,_,_,hB,h=>by
  simp only[U8] at h;cases h;exact ⟨by simpa [rF] using hB,hQ⟩
 | k::l,listed,st,hc,hb,hB,h=>by
  simp only[List.length_cons,rF,ac] at hB;obtain ⟨⟨hr,hf⟩,hB'⟩:=hB;have hr':k∈Region.ready .any ops listed:=by simpa using hr
  simp only[U8] at h;split at h
  ·rename_i o h0;simp only[Option.bind_eq_some_iff] at h;obtain ⟨st1,h1,h2⟩:=h;refine MO h0 l.length listed st st1 hc hb (λj oj hoj hjk hun=>?_) hr' h1 (MQ hms hQ l _ st1 (jK hc hr') (Nat.le_trans hb (wA h1)) hB' h2);have hjs:j<ops.size:=(Array.getElem?_eq_some_iff.1 hoj).1;have:=all_eq_true.1 hf j (by simpa using hjs);simp only[Bool.or_eq_true,ah] at this;rcases this with (hle|hl)|hp
   ·exact absurd hle hjk
   ·rw[hun] at hl;cases hl
   ·unfold TG at hp;simp only[Bool.or_eq_true] at hp;rcases hp with hp|hp
    ·exact .inl (hms j k hp)
    ·rw[h0,hoj] at hp;simp only[ac] at hp;exact .inr ⟨hp.2,hp.1⟩
  ·cases h
def fJ (ops:Array Oper) (st:St):St:=⟨st.s,st.σ,st.n+ops.size⟩
variable {Q:Exit->St->Prop}
def YR (hE:aR cx.P E) (hm:cx.P.follows .mixedOrders=true) {id:Nat} (hB:sZ M E ops=true) (h:U8 M cx.P E nt ops st.n (DZ M E ops) (fJ ops st)=some st') (hq:Q .normal st'):AW cx nt (.region id ops true) Q st:=by
 intro ρ a w hr;refine wp_region_any hm ?_;have hd:Below w.heap.size w w.drew:=(Below.refl _ _).drew;have hr':Rel cx nt ρ (fJ ops st) a w.drew:=⟨hr.inv.grow hd (Nat.le_add_right _ _),hr.nt,hr.defers,hr.keeps.trans' (bQ.gY hd),hr.oO.below hd,λi=>(hr.nG i).grow hd⟩
 have hρ0:∀ k,st.n<=k->ρ k=none:=λk hk=>by
  cases hx:ρ k with
  | none=>rfl
  | some l=>have:=(hr.inv.new k l hx).1;omega
 simp only[sZ,ac,ah] at hB;obtain ⟨⟨hmx,hlen⟩,hB⟩:=hB;have hlex:=MQ (P:=cx.P) (E:=E) (nt:=nt) (base:=st.n) (Q:=λs=>s=st') (ms:=wG ops.toList []) (λj i hb=>mK ops.toList [] (by simp) (λj i hb=>by simp at hb) j i hb) rfl (DZ M E ops) (Array.replicate ops.size false) (fJ ops st)
  (λm o _ hm'=>by simp[Array.getElem?_replicate] at hm';split at hm'<;>simp at hm') (Nat.le_add_right _ _) hB h
 rw[hlen] at hlex;exact KC hmx (Q:=λs=>s=st') (Q':=sO cx nt Q) hE (λs ρ a w hs hr=>by subst hs;exact ⟨s,ρ,hr,hq⟩) ops.size (Array.replicate ops.size false) (fJ ops st) ρ a w.drew hr' (by simp) (al _) (λ_ i hi _ _=>hρ0 _ (by omega)) hlex
def AT7 (hE:aR cx.P E) (hm:cx.P.follows .mixedOrders=true) {id:Nat} {base:Nat} (hle:base<=st.n) (hno:BBR ops=true) (hB:sZ M E ops=true) (h:U8 M cx.P E nt ops base (DZ M E ops) (fJ ops st)=some st') (hq:Q .normal st'):AW cx nt (.region id ops true) Q st:=by
 intro ρ a w hr;refine wp_region_any hm ?_;have hd:Below w.heap.size w w.drew:=(Below.refl _ _).drew;have hr':Rel cx nt ρ (fJ ops st) a w.drew:=⟨hr.inv.grow hd (Nat.le_add_right _ _),hr.nt,hr.defers,hr.keeps.trans' (bQ.gY hd),hr.oO.below hd,λi=>(hr.nG i).grow hd⟩
 simp only[sZ,ac,ah] at hB;obtain ⟨⟨hmx,hlen⟩,hB⟩:=hB;have hlex:=MQ (P:=cx.P) (E:=E) (nt:=nt) (base:=base) (Q:=λs=>s=st') (ms:=wG ops.toList []) (λj i hb=>mK ops.toList [] (by simp) (λj i hb=>by simp at hb) j i hb) rfl (DZ M E ops) (Array.replicate ops.size false) (fJ ops st)
  (λm o _ hm'=>by simp[Array.getElem?_replicate] at hm';split at hm'<;>simp at hm') (Nat.le_trans hle (Nat.le_add_right _ _)) hB h
 rw[hlen] at hlex;exact KC hmx (Q:=λs=>s=st') (Q':=sO cx nt Q) hE (λs ρ a w hs hr=>by subst hs;exact ⟨s,ρ,hr,hq⟩) ops.size (Array.replicate ops.size false) (fJ ops st) ρ a w.drew hr' (by simp) (Nat.add_le_add_right hle _) (λ_ i hi ho _=>by
  obtain ⟨o,h0,hk⟩:=ho;obtain ⟨_,e,he⟩:=rC hk;have:=all_eq_true.1 hno o (by rw[Array.mem_toList_iff];exact Array.mem_of_getElem? h0);rw[he] at this;cases this) hlex
def AZB (M:Bool) (P:Program) (E:Env) (nt:Nat) (ops:Array Oper) (base:Nat) (T:Array Bool->St->Prop):Nat->Array Bool->St->Prop
 | 0,listed,st=>T listed st
 | f+1,listed,st=>Region.ready .any ops listed≠[]/\∀ i∈Region.ready .any ops listed,∃ o st',ops[i]? = some o/\hO M P E nt ops base i o st=some st'/\AZB M P E nt ops base T f (listed.setIfInBounds i true) st'
def vQ (M:Bool) (E:Env) (ops:Array Oper) (ms:List Nat):List Nat->Array Bool->Bool
 | [],_=>true
 | k::l,listed=>(Region.ready .any ops listed).contains k&&(range ops.size).all (λj=>decide (j=k)||listed.getD j true||TG M E ops ms k j)&&vQ M E ops ms l (listed.setIfInBounds k true)
def EC (ops:Array Oper):Nat->Nat->Array Bool->Bool
 | 0,_,listed=>(Region.ready .any ops listed).isEmpty
 | c+1,k,listed=>(match Region.ready .any ops listed with
  | [i]=>decide (i=k)
  | _=>false)&&EC ops c (k+1) (listed.setIfInBounds k true)
def BKD (l:List Nat) (listed:Array Bool):Array Bool:=l.foldl (λL k=>L.setIfInBounds k true) listed
def WH (E:Env) (ops:Array Oper) (t:Nat):Bool:=BBR ops&&(decide (t<=ops.size)&&(((range ops.size).all λj=>decide (j<t)||(range t).all λi=>((wG ops.toList []).getD j 0).testBit i) &&
 (vQ false E ops (wG ops.toList []) (range t) (Array.replicate ops.size false)&&EC ops (ops.size-t) t (BKD (range t) (Array.replicate ops.size false)))))
def ADC:∀ (t:Nat) (S:List Nat),S.Nodup->(∀ j∈S,j<t)->S.length<=t
 | 0,S,_,h=>by
  cases S with
  | nil=>simp
  | cons a S=>have:=h a (by simp);omega
 | t+1,S,hn,h=>by
  have h1:=ADC t (S.erase t) (hn.erase t) λj hj=>by
   have h2:=h j (List.mem_of_mem_erase hj);have h3:j≠t:=λe=>by subst e;exact (List.Nodup.not_mem_erase hn) hj
   omega
  by_cases hm:t∈S
  ·rw[List.length_erase_of_mem hm] at h1;omega
  ·rw[List.erase_of_not_mem hm] at h1;omega
def Left (t:Nat) (listed:Array Bool) (f:Nat):Prop:=∀ S:List Nat,S.Nodup->(∀ j∈S,j<t/\listed.getD j true=false)->S.length<=f
def Left.step {t f j:Nat} {listed:Array Bool} (h:Left t listed (f+1)) (hj:j<t) (hu:listed.getD j true=false):Left t (listed.setIfInBounds j true) f:=λS hn hS=>by
 have hjs:j<listed.size:=by
  rcases Nat.lt_or_ge j listed.size with h'|h'
  ·exact h'
  ·simp[Array.getElem?_eq_none h'] at hu
 have hnot:j∉S:=λhm=>by
  have:=(hS j hm).2;rw[show (listed.setIfInBounds j true).getD j true=true by simp[hjs]] at this;cases this
 have:=h (j::S) (List.nodup_cons.2 ⟨hnot,hn⟩) λi hi=>by
  rcases mem_cons.1 hi with rfl|hi
  ·exact ⟨hj,hu⟩
  ·have h1:=hS i hi;have hne:j≠i:=λe=>hnot (e ▸ hi);rw[getD_set_ne true hne] at h1;exact h1
 simpa using this
def AGU {T:Array Bool->St->Prop} {t i:Nat} (htl:∀ j oj,ops[j]? = some oj->t<=j->∀ i,i<t->Reach ops j i) (hi:ops[i]? = some oi) (hit:i<t) :
  ∀ (f:Nat) (listed:Array Bool) (st st₁:St),qP ops listed->base<=st.n->Left t listed (f+1) ->
   (∀ j oj,ops[j]? = some oj->j≠i->listed.getD j true=false->Reach ops j i\/(UW (cD M E ops oi) (cD M E ops oj)=true/\oi.apart ops oj=true)) ->
   i∈Region.ready .any ops listed->hO M P E nt ops base i oi st=some st₁ ->
   AZB M P E nt ops base T f (listed.setIfInBounds i true) st₁->AZB M P E nt ops base T (f+1) listed st:=by
 have low:∀ {listed:Array Bool} {j:Nat},qP ops listed->listed.getD i true=false->j∈Region.ready .any ops listed->j<t:=λ{listed j} hc hiun hj=>by
  rcases Nat.lt_or_ge j t with h|h
  ·exact h
  ·exfalso;obtain ⟨_,oj,hoj,hall⟩:=mem_ready.1 hj;have:=(htl j oj hoj h i hit).listed hc (λo ho e he hb=>by rw[hoj] at ho;cases ho;exact hall e he hb);rcases Nat.lt_or_ge i listed.size with h'|h'
   ·simp[h'] at hiun this;rw[hiun] at this;cases this
   ·simp[Array.getElem?_eq_none h'] at this
 intro f
 induction f with
 | zero =>
  intro listed st st₁ hc _ hl _ hr hs H;refine ⟨λh=>(by rw[h] at hr;cases hr),λj hj=>?_⟩;by_cases hji:j=i
  ·subst hji;exact ⟨oi,st₁,hi,hs,H⟩
  ·exfalso;have hiun:=(mem_ready.1 hr).1;have hjun:=(mem_ready.1 hj).1;have:=hl [i,j] (by simp[Ne.symm hji]) λk hk=>by
    simp only[mem_cons,List.not_mem_nil,or_false] at hk;rcases hk with rfl|rfl
    ·exact ⟨hit,hiun⟩
    ·exact ⟨low hc hiun hj,hjun⟩
   simp at this
 | succ f ih =>
  intro listed st st₁ hc hb hl hfree hr hs H;refine ⟨λh=>(by rw[h] at hr;cases hr),λj hj=>?_⟩;by_cases hji:j=i
  ·subst hji;exact ⟨oi,st₁,hi,hs,H⟩
  ·obtain ⟨oj,st₂,hoj,h2,H2⟩:=H.2 j (ready_mono hj hji);obtain ⟨hjun,oj',hoj',hall⟩:=mem_ready.1 hj;rw[hoj] at hoj';cases hoj';have hiun:=(mem_ready.1 hr).1;rcases hfree j oj hoj hji hjun with hre|⟨hal,hap⟩
   ·exfalso;have:=hre.listed hc (λo ho e he hb=>by rw[hoj] at ho;cases ho;exact hall e he hb);rcases Nat.lt_or_ge i listed.size with h'|h'
    ·simp[h'] at hiun this;rw[hiun] at this;cases this
    ·simp[Array.getElem?_eq_none h'] at this
   ·obtain ⟨st₃,h3,h4⟩:=BD4 hb (Ne.symm hji) hap hal hs h2;refine ⟨oj,st₃,hoj,h3,ih (listed.setIfInBounds j true) st₃ st₂ (jK hc hj) (Nat.le_trans hb (wA h3)) (hl.step (low hc hiun hj) hjun) (λk ok hk hki hun=>?_) (ready_mono hr (Ne.symm hji)) h4 ?_⟩
    ·refine hfree k ok hk hki ?_;by_cases hjk:j=k
     ·subst hjk;exact hjun
     ·rw[getD_set_ne true hjk] at hun;exact hun
    ·rw[Array.setIfInBounds_comm _ _ hji];exact H2
def ZV {P:Program} {T:Array Bool->St->Prop} {ms:List Nat} {t:Nat} (htl:∀ j oj,ops[j]? = some oj->t<=j->∀ i,i<t->Reach ops j i) (hms:∀ j i,(ms.getD j 0).testBit i=true->Reach ops j i) {st':St}:∀ (l:List Nat) (listed:Array Bool) (st:St),(∀ k∈l,k<t)->qP ops listed->base<=st.n->Left t listed l.length ->
  vQ M E ops ms l listed=true->U8 M P E nt ops base l st=some st'->T (BKD l listed) st'->AZB M P E nt ops base T l.length listed st
 | [],_,_,_,_,_,_,_,h,hT=>by
  simp only[U8] at h;cases h;exact hT
 | k::l,listed,st,hk,hc,hb,hl,hB,h,hT=>by
  simp only[vQ,ac] at hB;obtain ⟨⟨hr,hf⟩,hB'⟩:=hB;have hr':k∈Region.ready .any ops listed:=by simpa using hr
  simp only[U8] at h;split at h
  ·rename_i o h0;simp only[Option.bind_eq_some_iff] at h;obtain ⟨st1,h1,h2⟩:=h;refine AGU htl h0 (hk k (by simp)) l.length listed st st1 hc hb hl (λj oj hoj hjk hun=>?_) hr' h1 (ZV htl hms l _ st1 (λq hq=>hk q (by simp[hq])) (jK hc hr') (Nat.le_trans hb (wA h1)) (hl.step (hk k (by simp)) (mem_ready.1 hr').1) hB' h2 hT);have hjs:j<ops.size:=(Array.getElem?_eq_some_iff.1 hoj).1;have:=all_eq_true.1 hf j (by simpa using hjs);simp only[Bool.or_eq_true,ah] at this;rcases this with (hle|hl)|hp
   ·exact absurd hle hjk
   ·rw[hun] at hl;cases hl
   ·unfold TG at hp;simp only[Bool.or_eq_true] at hp;rcases hp with hp|hp
    ·exact .inl (hms j k hp)
    ·rw[h0,hoj] at hp;simp only[ac] at hp;exact .inr ⟨hp.2,hp.1⟩
  ·cases h
def ALI (hno:∀ (i:Nat) (o:Oper),ops[i]? = some o->cD M E ops o≠.alloc) (hE:aR cx.P E) {T:Array Bool->St->Prop} {Q':Exit->Act->World->Prop} (m:Nat) (hT:∀ listed st ρ a w,T listed st->Rel cx nt ρ st a w->wpAny cx.P .any ops Q' m listed a w) :
  ∀ (f:Nat) (listed:Array Bool) (st:St) (ρ:Nat->Option Loc) (a:Act) (w:World),Rel cx nt ρ st a w->base+ops.size<=st.n->AZB M cx.P E nt ops base T f listed st->wpAny cx.P .any ops Q' (f+m) listed a w
 | 0,listed,st,ρ,a,w,hr,_,h=>by rw[Nat.zero_add];exact hT listed st ρ a w h hr
 | f+1,listed,st,ρ,a,w,hr,hn,h=>by
  rw[show f+1+m=(f+m)+1 by omega];refine ⟨λh0=>absurd h0 h.1,λi hi=>?_⟩;obtain ⟨o,st',h0,h1,h2⟩:=h.2 i hi;have hil:i<ops.size:=(Array.getElem?_eq_some_iff.1 h0).1;unfold wpOp;simp only[h0];have:=AD7 (Q:=Q') hE hr hil hn (λhka=>absurd hka (hno i o h0)) h1 (K:=wpAny cx.P .any ops Q' (f+m) (listed.setIfInBounds i true)) (λρ' a' w' hr' _=>ALI hno hE m hT f _ st' ρ' a' w' hr' (Nat.le_trans hn (wA h1)) h2);split
  ·rename_i hw;simp only[hw,if_true] at this;exact .inl this
  ·rename_i hw;simp only[hw] at this;exact this
def A66 {ops:Array Oper} {Q:Exit->Act->World->Prop} {i:Nat} {K':Act->World->Prop} (hk:∀ a w,K a w->K' a w) {a:Act} {w:World} (h:wpOp P ops Q i K a w):wpOp P ops Q i K' a w:=by
 unfold wpOp at h ⊢;split at h
 ·exact hk _ _ h
 ·split at h
  ·rename_i hw;rw[if_pos hw];rcases h with h|h
   ·exact .inl (Oper.wp_mono hk h)
   ·exact .inr h
  ·rename_i hw;rw[if_neg hw];exact hk _ _ h
def SF {P:Program} {Q:Exit->Act->World->Prop}:∀ (c k:Nat) (listed:Array Bool) (a:Act) (w:World),EC ops c k listed=true->wpOps P ops Q (range' k c) a w->wpAny P .any ops Q c listed a w
 | 0,k,listed,a,w,h,hw=>by
  simp only[EC,List.isEmpty_iff] at h;exact ⟨h,by simpa [wpOps] using hw⟩
 | c+1,k,listed,a,w,h,hw=>by
  simp only[EC,ac] at h;obtain ⟨h1,h2⟩:=h;split at h1
  ·rename_i i hr;have hik:i=k:=of_decide_eq_true h1;subst hik;refine ⟨λh0=>(by rw[hr] at h0;cases h0),λj hj=>?_⟩;rw[hr] at hj;have:j=i:=by simpa using hj
   subst this;rw[List.range'_succ,wpOps_cons] at hw;exact A66 (λa w=>SF c (j+1) _ a w h2) hw
  ·cases h1
def AT8 (hE:aR cx.P E) (hm:cx.P.follows .mixedOrders=true) {id t:Nat} (hB:WH E ops t=true) (h:U8 false cx.P E nt ops st.n (range t) (fJ ops st)=some st')
  (hq:∀ ρ a w,Rel cx nt ρ st' a w->wpOps cx.P ops (sO cx nt Q) (range' t (ops.size-t)) a w):AW cx nt (.region id ops true) Q st:=by
 intro ρ a w hr;refine wp_region_any hm ?_;have hd:Below w.heap.size w w.drew:=(Below.refl _ _).drew;have hr':Rel cx nt ρ (fJ ops st) a w.drew:=⟨hr.inv.grow hd (Nat.le_add_right _ _),hr.nt,hr.defers,hr.keeps.trans' (bQ.gY hd),hr.oO.below hd,λi=>(hr.nG i).grow hd⟩
 simp only[WH,ac,ah] at hB;obtain ⟨hno,hle,htl,hord,hfor⟩:=hB;have hrm:=λj i hb=>mK (ops:=ops) ops.toList [] (by simp) (λj i hb=>by simp at hb) j i hb;have hno':∀ (i:Nat) (o:Oper),ops[i]? = some o->cD false E ops o≠.alloc:=λi o ho hk=>by
  obtain ⟨_,e,he⟩:=rC hk;have:=all_eq_true.1 hno o (by rw[Array.mem_toList_iff];exact Array.mem_of_getElem? ho);rw[he] at this;cases this
 have htl':∀ j oj,ops[j]? = some oj->t<=j->∀ i,i<t->Reach ops j i:=λj oj hj htj i hi=>by
  have hjs:j<ops.size:=(Array.getElem?_eq_some_iff.1 hj).1;have h1:=all_eq_true.1 htl j (by simpa using hjs);simp only[Bool.or_eq_true,ah] at h1;rcases h1 with h1|h1
  ·omega
  ·exact hrm j i (all_eq_true.1 h1 i (by simpa using hi))
 have hlex:=ZV (P:=cx.P) (M:=false) (E:=E) (nt:=nt) (base:=st.n) (T:=λL s=>L=BKD (range t) (Array.replicate ops.size false)/\s=st') htl' hrm (range t) (Array.replicate ops.size false) (fJ ops st) (λk hk=>by simpa using hk)
  (λm o _ hm'=>by simp[Array.getElem?_replicate] at hm';split at hm'<;>simp at hm') (Nat.le_add_right _ _) (λS hn hS=>by
   have:=ADC t S hn λj hj=>(hS j hj).1;simpa using this) hord h ⟨rfl,rfl⟩
 rw[List.length_range] at hlex;have:=ALI (Q':=sO cx nt Q) hno' hE (ops.size-t) (λL s ρ a w hs hr=>by
  obtain ⟨rfl,rfl⟩:=hs;exact SF _ _ _ _ _ hfor (hq ρ a w hr)) t (Array.replicate ops.size false) (fJ ops st) ρ a w.drew hr' (al _) hlex
 rw[show t+(ops.size-t)=ops.size by omega] at this;exact this
def A9P {α β:Type} (g:α->Option (List β)):List α->Option (List β)
 | []=>some []
 | i::r=>match g i,A9P g r with
  | some a,some b=>some (a++b)
  | _,_=>none
def RD {α β:Type} {g:α->Option (List β)}:∀ {is:List α} {l:List β},A9P g is=some l->∀ i∈is,∃ a,g i=some a/\∀ x∈a,x∈l
 | [],l,_,i,hi=>by simp at hi
 | j::r,l,h,i,hi=>by
  simp only[A9P] at h;split at h
  ·rename_i a b h1 h2;cases h;rcases mem_cons.1 hi with rfl|hi
   ·exact ⟨a,h1,λx hx=>List.mem_append.2 (.inl hx)⟩
   ·obtain ⟨c,h3,h4⟩:=RD h2 i hi;exact ⟨c,h3,λx hx=>List.mem_append.2 (.inr (h4 x hx))⟩
  ·cases h
def US (P:Program) (E:Env) (nt:Nat) (ops:Array Oper):Nat->Array Bool->St->Option (List St)
 | 0,listed,st=>match Region.ready .any ops listed with
  | []=>some [st]
  | _=>none
 | f+1,listed,st=>match Region.ready .any ops listed with
  | []=>some [st]
  | i::is=>A9P (λi=>match ops[i]? with
   | some o=>match fE P E nt ops o st with
    | some st'=>US P E nt ops f (listed.setIfInBounds i true) st'
    | none=>none
   | none=>none) (i::is)
def ZR {P:Program} {Q:St->Prop}:∀ (f:Nat) (listed:Array Bool) (st:St) (l:List St),US P E nt ops f listed st=some l->(∀ s∈l,Q s)->QN P E nt ops Q f listed st
 | 0,listed,st,l,h,hq=>by
  simp only[US] at h;split at h
  ·rename_i hr;cases h;exact ⟨hr,hq st (List.mem_singleton.2 rfl)⟩
  ·cases h
 | f+1,listed,st,l,h,hq=>by
  simp only[US] at h;split at h
  ·rename_i hr;cases h;exact ⟨λ_=>hq st (List.mem_singleton.2 rfl),λi hi=>(by rw[hr] at hi;cases hi)⟩
  ·rename_i i0 is hr;refine ⟨λh0=>(by rw[h0] at hr;cases hr),λi hi=>?_⟩;rw[hr] at hi;obtain ⟨a,h1,h2⟩:=RD h i hi;split at h1
   ·rename_i o ho;split at h1
    ·rename_i st' hs;exact ⟨o,st',ho,hs,ZR f _ st' a h1 λs hs=>hq s (h2 s hs)⟩
    ·cases h1
   ·cases h1
def nQ (nt:Nat) (st:St):St:=⟨λi=>match Nat.blt i nt with|true=>st.s i|false=>.p (.v undef),λk=>match Nat.blt k st.n with|true=>st.σ k|false=>none,st.n⟩
def A4F {a:Act} {w:World} (hr:Rel cx nt ρ st a w):Rel cx nt ρ (nQ nt st) a w:=by
 have hσ:(nQ nt st).σ=st.σ:=by
  funext k
  show (match Nat.blt k st.n with|true=>st.σ k|false=>none)=st.σ k;cases hk:Nat.blt k st.n with
  | true=>rfl
  | false =>
   cases hx:st.σ k with
   | none=>rfl
   | some x =>
    obtain ⟨l,hl,_⟩:=hr.inv.boxes k x hx;have:=(hr.inv.new k l hl).1;rw[<-Bool.not_eq_true] at hk;exact absurd (Nat.ble_eq_true_of_le this) hk
 refine ⟨by rw[hσ];exact hr.inv,hr.nt,hr.defers,by rw[hσ];exact hr.keeps,hr.oO,λi=>?_⟩;rw[hσ];show Rd w _ ρ (match Nat.blt i nt with|true=>st.s i|false=>.p (.v undef)) _;cases hi:Nat.blt i nt with
 | true=>exact hr.nG i
 | false =>
  have h2:¬ i<nt:=λh=>by rw[<-Bool.not_eq_true] at hi;exact hi (Nat.ble_eq_true_of_le h)
  have h1:=hr.nt;have:a.tmps.getD i undef=undef:=by
   rw[Array.getD_eq_getD_getElem?,Array.getElem?_eq_none (by omega)];rfl
  rw[this];exact .p _ _ (.v _)
def BAB:Value->Value->Bool
 | .int k a,.int k' b=>decide (k=k')&&a == b
 | .bool a,.bool b=>a == b
 | .string a,.string b=>decide (a=b)
 | .slice none a b,.slice none c d=>Nat.beq a c&&Nat.beq b d
 | .pointer none,.pointer none=>true
 | .nilFunc,.nilFunc=>true
 | .tuple a,.tuple b=>Nat.beq a.size 0&&Nat.beq b.size 0
 | _,_=>false
def ALV {a b:Value} (h:BAB a b=true):a=b:=by
 unfold BAB at h;split at h<;>try simp only[ac,ah,beq_iff_eq] at h
 ·obtain ⟨rfl,rfl⟩:=h;rfl
 ·rw[h]
 ·rw[h]
 ·rw[Nat.eq_of_beq_eq_true h.1,Nat.eq_of_beq_eq_true h.2]
 ·rfl
 ·rfl
 ·rw[Array.eq_empty_of_size_eq_zero (Nat.eq_of_beq_eq_true h.1),Array.eq_empty_of_size_eq_zero (Nat.eq_of_beq_eq_true h.2)]
 ·cases h
mutual
def BAA:T->T->Bool
 | .v a,.v b=>BAB a b
 | .agg a,.agg b=>xD a b
 | .bY a,.bY b=>xD a b
 | .ref a,.ref b=>xD a b
 | .ne f,.ne g=>f == g
 | .fn f a b,.fn g c d=>Nat.beq f g&&(xD a c&&xD b d)
 | .sl f a,.sl g b=>(f == g)&&B8 a b
 | _,_=>false
def xD:List T->List T->Bool
 | [],[]=>true
 | a::l,b::m=>BAA a b&&xD l m
 | _,_=>false
def B8:List (List T)->List (List T)->Bool
 | [],[]=>true
 | a::l,b::m=>xD a b&&B8 l m
 | _,_=>false
end
mutual
def ALU:∀ (a b:T),BAA a b=true->a=b
 | a,b,h=>by
  unfold BAA at h;split at h
  ·rw[ALV h]
  ·rw[qT _ _ h]
  ·rw[qT _ _ h]
  ·rw[qT _ _ h]
  ·rw[beq_iff_eq] at h;rw[h]
  ·simp only[ac] at h;rw[Nat.eq_of_beq_eq_true h.1,qT _ _ h.2.1,qT _ _ h.2.2]
  ·simp only[ac,beq_iff_eq] at h;rw[G0 _ _ h.2,h.1]
  ·cases h
def qT:∀ (a b:List T),xD a b=true->a=b
 | [],[],_=>rfl
 | a::l,b::m,h=>by simp only[xD,ac] at h;rw[ALU a b h.1,qT l m h.2]
 | [],_::_,h=>by simp[xD] at h
 | _::_,[],h=>by simp[xD] at h
def G0:∀ (a b:List (List T)),B8 a b=true->a=b
 | [],[],_=>rfl
 | a::l,b::m,h=>by simp only[B8,ac] at h;rw[qT a b h.1,G0 l m h.2]
 | [],_::_,h=>by simp[B8] at h
 | _::_,[],h=>by simp[B8] at h
end
mutual
def A0E:D->D->Bool
 | .p a,.p b=>BAA a b
 | .agg a,.agg b=>BA a b
 | .bY a,.bY b=>BA a b
 | .ptr a b c,.ptr d e f=>Nat.beq a d&&(Nat.beq b e&&Nat.beq c f)
 | .own a,.own b=>Nat.beq a b
 | .bs a b c,.bs d e f=>Nat.beq a d&&(Nat.beq b e&&Nat.beq c f)
 | .map a,.map b=>Nat.beq a b
 | .it a,.it b=>Nat.beq a b
 | .fn f a b,.fn g c d=>Nat.beq f g&&(BA a c&&BA b d)
 | .any,.any=>true
 | _,_=>false
def BA:List D->List D->Bool
 | [],[]=>true
 | a::l,b::m=>A0E a b&&BA l m
 | _,_=>false
end
mutual
def U7:∀ (a b:D),A0E a b=true->a=b
 | a,b,h=>by
  unfold A0E at h;split at h
  ·rw[ALU _ _ h]
  ·rw[tU _ _ h]
  ·rw[tU _ _ h]
  ·simp only[ac] at h;rw[Nat.eq_of_beq_eq_true h.1,Nat.eq_of_beq_eq_true h.2.1,Nat.eq_of_beq_eq_true h.2.2]
  ·rw[Nat.eq_of_beq_eq_true h]
  ·simp only[ac] at h;rw[Nat.eq_of_beq_eq_true h.1,Nat.eq_of_beq_eq_true h.2.1,Nat.eq_of_beq_eq_true h.2.2]
  ·rw[Nat.eq_of_beq_eq_true h]
  ·rw[Nat.eq_of_beq_eq_true h]
  ·simp only[ac] at h;rw[Nat.eq_of_beq_eq_true h.1,tU _ _ h.2.1,tU _ _ h.2.2]
  ·rfl
  ·cases h
def tU:∀ (a b:List D),BA a b=true->a=b
 | [],[],_=>rfl
 | a::l,b::m,h=>by simp only[BA,ac] at h;rw[U7 a b h.1,tU l m h.2]
 | [],_::_,h=>by simp[BA] at h
 | _::_,[],h=>by simp[BA] at h
end
def GZ:List (List D)->List (List D)->Bool
 | [],[]=>true
 | a::l,b::m=>BA a b&&GZ l m
 | _,_=>false
def RY:∀ (a b:List (List D)),GZ a b=true->a=b
 | [],[],_=>rfl
 | a::l,b::m,h=>by simp only[GZ,ac] at h;rw[tU a b h.1,RY l m h.2]
 | [],_::_,h=>by simp[GZ] at h
 | _::_,[],h=>by simp[GZ] at h
def AQI:List (Value×D)->List (Value×D)->Bool
 | [],[]=>true
 | a::l,b::m=>BAB a.1 b.1&&(A0E a.2 b.2&&AQI l m)
 | _,_=>false
def ALT:∀ (a b:List (Value×D)),AQI a b=true->a=b
 | [],[],_=>rfl
 | a::l,b::m,h=>by simp only[AQI,ac] at h;rw[Prod.ext (ALV h.1) (U7 _ _ h.2.1),ALT l m h.2.2]
 | [],_::_,h=>by simp[AQI] at h
 | _::_,[],h=>by simp[AQI] at h
def BF1:Option bE->Option bE->Bool
 | none,none=>true
 | some (.rows f a),some (.rows g b)=>(f == g)&&GZ a b
 | some (.arr f z a),some (.arr g y b)=>(f == g)&&(Nat.beq z y&&B8 a b)
 | some (.map f a),some (.map g b)=>(f == g)&&AQI a b
 | some (.lC a n),some (.lC b m)=>decide (a=b)&&Nat.beq n m
 | some .held,some .held=>true
 | _,_=>false
def A97 {a b:Option bE} (h:BF1 a b=true):a=b:=by
 unfold BF1 at h;split at h
 ·rfl
 ·simp only[ac,beq_iff_eq] at h;rw[h.1,RY _ _ h.2]
 ·simp only[ac,beq_iff_eq] at h;rw[h.1,Nat.eq_of_beq_eq_true h.2.1,G0 _ _ h.2.2]
 ·simp only[ac,beq_iff_eq] at h;rw[h.1,ALT _ _ h.2]
 ·simp only[ac,ah] at h;rw[h.1,Nat.eq_of_beq_eq_true h.2]
 ·rfl
 ·cases h
def AZA (f:Nat->Bool):Nat->Bool
 | 0=>true
 | n+1=>f n&&AZA f n
def UT {f:Nat->Bool}:∀ {n:Nat},AZA f n=true->∀ i,i<n->f i=true
 | n+1,h,i,hi=>by
  rw[AZA,ac] at h;by_cases e:i=n
  ·subst e;exact h.1
  ·exact UT h.2 i (by omega)
def A98 (nt:Nat) (a b:St):Bool:=Nat.beq a.n b.n&&(AZA (λi=>A0E (a.s i) (b.s i)) nt&&AZA (λk=>BF1 (a.σ k) (b.σ k)) a.n)
def A99 {a b:St} (h:A98 nt a b=true):nQ nt a=nQ nt b:=by
 simp only[A98,ac] at h;obtain ⟨h1,h2,h3⟩:=h;have h1:=Nat.eq_of_beq_eq_true h1;have e1:(nQ nt a).s=(nQ nt b).s:=by
  funext i
  show (match Nat.blt i nt with|true=>a.s i|false=>.p (.v undef))=(match Nat.blt i nt with|true=>b.s i|false=>.p (.v undef));cases hi:Nat.blt i nt with
  | true=>exact U7 _ _ (UT h2 i (Nat.le_of_ble_eq_true hi))
  | false=>rfl
 have e2:(nQ nt a).σ=(nQ nt b).σ:=by
  funext k
  show (match Nat.blt k a.n with|true=>a.σ k|false=>none)=(match Nat.blt k b.n with|true=>b.σ k|false=>none);rw[<-h1];cases hi:Nat.blt k a.n with
  | true=>exact A97 (UT h3 k (Nat.le_of_ble_eq_true hi))
  | false=>rfl
 show (⟨(nQ nt a).s,(nQ nt a).σ,a.n⟩:St)=⟨(nQ nt b).s,(nQ nt b).σ,b.n⟩;rw[e1,e2,h1]
def DB (nt:Nat):List St->List St
 | []=>[]
 | a::l=>match l.all λb=>A98 nt a b with
  | true=>[nQ nt a]
  | false=>(a::l).map (nQ nt)
def AC2 {l:List St} {Q:St->Prop} (h:∀ s∈DB nt l,Q s):∀ s∈l,Q (nQ nt s):=by
 intro s hs;cases l with
 | nil=>cases hs
 | cons a l =>
  rw[DB] at h;cases he:l.all λb=>A98 nt a b with
  | true =>
   rw[he] at h;have h0:=h (nQ nt a) (List.mem_singleton.2 rfl);rcases mem_cons.1 hs with rfl|hs
   ·exact h0
   ·rw[<-A99 (all_eq_true.1 he s hs)];exact h0
  | false =>
   rw[he] at h;exact h _ (List.mem_map.2 ⟨s,hs,rfl⟩)
variable {Q:Exit->St->Prop}{st:St}
def BEL (hE:aR cx.P E) (hm:cx.P.follows .mixedOrders=true) {id:Nat} {l:List St} (h:US cx.P E nt ops ops.size (Array.replicate ops.size false) st=some l) (hq:∀ s∈DB nt l,Q .normal s):AW cx nt (.region id ops true) Q st:=by
 intro ρ a w hr;refine wp_region_any hm ?_;have hd:Below w.heap.size w w.drew:=(Below.refl _ _).drew;have hr':Rel cx nt ρ st a w.drew:=⟨hr.inv.grow hd (al _),hr.nt,hr.defers,hr.keeps.trans' (bQ.gY hd),hr.oO.below hd,λi=>(hr.nG i).grow hd⟩
 exact KB (Q:=λs=>Q .normal (nQ nt s)) (Q':=sO cx nt Q) hE (λs ρ a w hs hr=>⟨nQ nt s,ρ,A4F hr,hs⟩) ops.size (Array.replicate ops.size false) st ρ a w.drew hr' (ZR _ _ _ _ h (AC2 (Q:=λs=>Q .normal s) hq))
end
end Go.Pv
