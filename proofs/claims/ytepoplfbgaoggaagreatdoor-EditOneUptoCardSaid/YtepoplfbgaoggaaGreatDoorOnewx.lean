/-
  The pure evaluator, part x: maps that are read; equality of structures.
-/
import Derived.Test.YtepoplfbgaoggaaGreatDoorOnewg
import Derived.MapKept
import Derived.Laws.StructEq
set_option linter.defProp false
set_option linter.unusedSimpArgs false
namespace Go.Pv
open Go Go.RowKit Go.MapKept
def C1 (P:Program) (t:TypeId):Option TypeDesc :=
 match P.underlying t with
 | some (.int k)=>some (.int k)
 | some .string=>some .string
 | some .bool=>some .bool
 | _=>none
def L8 (kd:TypeDesc) (k:Value):Bool :=
 match kd,k with
 | .int j,.int j' _=>decide (j=j')
 | .string,.string _=>true
 | .bool,.bool _=>true
 | _,_=>false
def findD (kd:TypeDesc) (k:Value):List (Value×D)->Nat->Option (Option (Nat×D))
 | [],_=>some none
 | (k',d)::r,i =>
  match Instr.sameNow kd k k' with
  | some true=>some (some (i,d))
  | some false=>findD kd k r (i+1)
  | none=>none
def s0 (es:List (Value×T)):List (Value×D):=es.map λe=>(e.1,D.p e.2)
def YT (d:D) (t:T):D :=
 match d with
 | .p u=>.p (.cB [u,t])
 | d=>.cB [d,.p t]
def zH (P:Program) (σ:Nat->Option bL) (t:TypeId) (x i:D) (ok:Bool):Option D :=
 match P.underlying t with
 | some (.map kt et) =>
  match C1 P kt,i,tz? P et with
  | some kd,.p (.v k),some z =>
   match L8 kd k with
   | false=>none
   | true =>
    match x with
    | .map m =>
     match σ m with
     | some (.map _ es) =>
      match findD kd k es 0 with
      | some (some (_,d))=>some (if ok=true then YT d (.v (.bool true)) else d)
      | some none=>some (if ok=true then YT (.p (.v z)) (.v (.bool false)) else .p (.v z))
      | none=>none
     | _=>none
    | .p (.mp es) =>
     match findD kd k (s0 es) 0 with
     | some (some (_,d))=>some (if ok=true then YT d (.v (.bool true)) else d)
     | some none=>some (if ok=true then YT (.p (.v z)) (.v (.bool false)) else .p (.v z))
     | none=>none
    | .p (.v (.map none))=>some (if ok=true then YT (.p (.v z)) (.v (.bool false)) else .p (.v z))
    | _=>none
  | _,_,_=>none
 | _=>none
section
variable {cx : Cx} {ρ : Nat -> Option Loc} {σ : Nat -> Option bL} {n : Nat} {w : World} {own : Nat -> Prop}
variable {kd:TypeDesc}
def O5 {k:Value} (h:L8 kd k=true):IsKey kd k:=by
 unfold L8 at h;split at h
 ·simp at h;subst h;rfl
 ·trivial
 ·trivial
 ·cases h
def I3 {P:Program} {t:TypeId} (h:C1 P t=some kd):P.underlying t=some kd:=by
 unfold C1 at h
 grind
def BKG {d:D} {v:Value} {t:T} {u:Value} (hd:Rd w own ρ d v) (ht:cS w own t u):Rd w own ρ (YT d t) (.tuple #[v,u]):=by
 have gen:∀ d,Rd w own ρ d v->Rd w own ρ (.cB [d,.p t]) (.tuple #[v,u]):=λd hd=>.cB _ _ rfl λi hi=>by
  match i,hi with
  | 0,_=>exact hd
  | 1,_=>exact .p _ _ ht
 unfold YT;split
 ·cases hd with
  | p _ _ hd =>
  refine .p _ _ (.cB _ _ rfl λi hi=>?_)
  match i,hi with
  | 0,_=>exact hd
  | 1,_=>exact ht
 ·simp_all
def EU (w:World) (own:Nat->Prop) (ρ:Nat->Option Loc) (l:List MapEntry) (es:List (Value×D)) (b:Nat):Prop :=
 l.length=es.length/\∀ i (h:i<es.length),∃ e,l[i]? = some e/\e.key=es[i].1/\e.born=b+i/\Rd w own ρ es[i].2 e.val
def rH (kd:TypeDesc) (k:Value):∀ {es:List (Value×D)} {l:List MapEntry} {i b:Nat} {r:Option (Nat×D)},EU w own ρ l es b->findD kd k es i=some r ->
  (r=none->Instr.findNow kd k l i=some none)/\(∀ j d,r=some (j,d)->∃ v q,j=i+q/\Instr.findNow kd k l i=some (some (j,v))/\Rd w own ρ d v/\(∃ e x,l[q]? = some e/\es[q]? = some x/\e.val=v/\x.2=d/\Instr.sameNow kd k e.key=some true))
 | [],[],i,b,r,_,h=>by
  cases h;exact ⟨λ_=>rfl,λj d h=>by cases h⟩
 | [],_::_,_,_,_,he,_=>by simp[EU] at he
 | _::_,[],_,_,_,he,_=>by simp[EU] at he
 | (k',d)::es,e::l,i,b,r,he,h=>by
  obtain ⟨e0,h1,h2,h3,h4⟩:=he.2 0 (by simp);simp at h1 h2 h4;subst h1;have ht:EU w own ρ l es (b+1):=⟨by simpa using he.1,λi hi=>by
   obtain ⟨e,a,b',c,d⟩:=he.2 (i+1) (by simpa using hi);exact ⟨e,by simpa using a,by simpa using b',by omega,by simpa using d⟩⟩
  simp only[findD] at h;simp only[Instr.findNow,h2];split at h
  ·cases h;simp_all
  ·rename_i hs;obtain ⟨g1,g2⟩:=rH kd k ht h;refine ⟨λhr=>by simp only[hs];exact g1 hr,λj d' hjd=>?_⟩;obtain ⟨v,q,q1,q2,q3,e',x,q4,q5,q6⟩:=g2 j d' hjd;exact ⟨v,q+1,by omega,by simp only[hs];exact q2,q3,e',x,by simpa using q4,by simpa using q5,q6⟩
  ·cases h
def Inv.BBW (hI:Inv cx ρ σ n w) {m:Nat} {ro:Bool} {es:List (Value×D)} (hm:σ m=some (.map ro es)):∃ l ents,ρ m=some l/\0<l.L+l.C/\w.heap[l.bV]? = some (.map ents es.length)/\EU w (bY cx ρ σ) ρ ents.toList es 0:=by
 obtain ⟨l,hl,hL,o,ho,hb⟩:=hI.loc hm (λ_ _ e=>by cases e);cases hb with
 | rows _ _ _ hr=>simp[fJ] at hr
 | map _ _ ents h1 h2 =>
  refine ⟨l,ents,hl,hL,ho,by simpa using h1,λi hi=>?_⟩;simp_all
def AVG {es:List (Value×T)} {v:Value} (h:cS w own (.mp es) v):∃ b ents,v = .map (some b)/\b<w.heap.size/\w.heap[b]? = some (.map ents (s0 es).length)/\EU w own ρ ents.toList (s0 es) 0:=by
 cases h with
 | mp _ b ents f h1 h2 h3 h4 h5 h6 =>
  refine ⟨b,ents,rfl,h2,by simpa [s0] using h3,by simpa [s0] using h4,λi hi=>?_⟩;have hi':i<es.length:=by simpa [s0] using hi
  obtain ⟨a1,a2,a3⟩:=h5 i hi';refine ⟨f i,by simpa using a1,by simpa [s0] using a2,by omega,?_⟩;simp only[s0,List.getElem_map];exact .p _ _ (h6 i hi')
def BBT (hI:Inv cx ρ σ n w) {t:TypeId} {x i r:D} {vx vi:Value} {ok:Bool} (hx:Rd w (bY cx ρ σ) ρ x vx) (hi:Rd w (bY cx ρ σ) ρ i vi) (h:zH cx.P σ t x i ok=some r) :
  ∃ v,(Instr.lookup t vx vi ok).run cx.P w = .ok v w/\Rd w (bY cx ρ σ) ρ r v:=by
 unfold zH at h;split at h
 ·rename_i kt et hu;split at h
  ·rename_i kd k z hkk hz;cases hi with
   | p _ _ hi =>
   cases hi;split at h
   ·cases h
   ·rename_i hkey;have hk:=O5 hkey;have hku:=I3 hkk;have fin:∀ (d:D) (v:Value) (b:Bool),Rd w (bY cx ρ σ) ρ d v->Rd w (bY cx ρ σ) ρ (if ok=true then YT d (.v (.bool b)) else d) (if ok=true then .tuple #[v,.bool b] else v):=by
     intro d v b hd;cases ok
     ·simp_all
     ·simpa using BKG hd (.v (.bool b))
    split at h
    ·split at h
     ·rename_i _ es hm;obtain ⟨l,ents,hl,hL,ho,hE⟩:=hI.BBW hm;cases hx with
      | map _ l' hl' =>
      rw[hl] at hl';cases hl';have hobj:(getObj l.bV).run cx.P w = .ok (.map ents es.length) w:=by simp[getObj,Sem.run,ho]
      split at h
      ·rename_i j d hf;cases h;obtain ⟨_,g2⟩:=rH kd vi hE hf;obtain ⟨v,q,_,hfn,hrd,_⟩:=g2 j d rfl;refine ⟨_,?_,fin d v true hrd⟩;simp[Instr.lookup,run_underlying hu,hobj,run_checkKey hku hk,run_findKey hku hfn]
      ·rename_i hf;cases h;obtain ⟨g1,_⟩:=rH kd vi hE hf;refine ⟨_,?_,fin _ z false (.p _ _ (.v z))⟩;simp[Instr.lookup,run_underlying hu,hobj,run_checkKey hku hk,run_findKey hku (g1 rfl),run_zero? w hz]
      ·cases h
     ·cases h
    ·rename_i es;cases hx with
     | p _ _ hx =>
     obtain ⟨b,ents,rfl,_,ho,hE⟩:=AVG (ρ:=ρ) hx;have hobj:(getObj b).run cx.P w = .ok (.map ents (s0 es).length) w:=by simp[getObj,Sem.run,ho]
     split at h
     ·rename_i j d hf;cases h;obtain ⟨_,g2⟩:=rH kd vi hE hf;obtain ⟨v,q,_,hfn,hrd,_⟩:=g2 j d rfl;refine ⟨_,?_,fin d v true hrd⟩;simp[Instr.lookup,run_underlying hu,hobj,run_checkKey hku hk,run_findKey hku hfn]
     ·rename_i hf;cases h;obtain ⟨g1,_⟩:=rH kd vi hE hf;refine ⟨_,?_,fin _ z false (.p _ _ (.v z))⟩;simp[Instr.lookup,run_underlying hu,hobj,run_checkKey hku hk,run_findKey hku (g1 rfl),run_zero? w hz]
     ·cases h
    ·cases h;cases hx with
     | p _ _ hx =>
     cases hx;refine ⟨_,?_,fin _ z false (.p _ _ (.v z))⟩;have hfn:Instr.findNow kd vi ([]:List MapEntry) 0=some none:=rfl;simp[Instr.lookup,run_underlying hu,run_checkKey hku hk,run_findKey hku hfn,run_zero? w hz]
    ·cases h
  ·cases h
 ·cases h
end
def A8K (P:Program) (eq:TypeId->T->T->Option Bool):List Field->T->T->Option Bool
 | [],_,_=>some true
 | f::fs,x,y =>
  if f.name = "_" then A8K P eq fs x y
  else
   match AAK P f.type (.p x) f.offset,AAK P f.type (.p y) f.offset with
   | some (.p a),some (.p b) =>
    match eq f.type a b,A8K P eq fs x y with
    | some r,some r'=>some (r&&r')
    | _,_=>none
   | _,_=>none
def L7:T->Bool
 | .agg _=>true
 | .v (.agg _)=>true
 | _=>false
def tV {w:World} {own:Nat->Prop} {x:T} {v:Value} (h:L7 x=true) (hx:cS w own x v):∃ xs,v = .agg xs:=by
 unfold L7 at h;split at h
 ·cases hx with
  | agg _ vs=>exact ⟨vs,rfl⟩
 ·cases hx;exact ⟨_,rfl⟩
 ·cases h
def eqT (P:Program):Nat->TypeId->T->T->Option Bool
 | 0,_,_,_=>none
 | n+1,t,x,y =>
  match P.underlying t with
  | some (.int _)=>match x,y with
   | .v (.int k a),.v (.int k' b)=>if k=k' then some (decide (a=b)) else none
   | _,_=>none
  | some .string=>match x,y with
   | .v (.string a),.v (.string b)=>some (decide (a=b))
   | _,_=>none
  | some .bool=>match x,y with
   | .v (.bool a),.v (.bool b)=>some (decide (a=b))
   | _,_=>none
  | some (.struct fs)=>if P.stoodInHeld t=true\/L7 x=false\/L7 y=false then none else A8K P (eqT P n) fs.toList x y
  | _=>none
section
variable {P : Program} {w : World} {own : Nat -> Prop}
def TQ {eq:TypeId->T->T->Option Bool} {d:Nat} (he:∀ t x y r v u,eq t x y=some r->cS w own x v->cS w own y u->(Op.equalIn d t v u).run P w = .ok r w) {x y:T} {xs ys:Array Value} (hx:cS w own x (.agg xs)) (hy:cS w own y (.agg ys)) :
  ∀ {fs:List Field} {r:Bool},A8K P eq fs x y=some r->(Op.eqFields d xs ys fs).run P w = .ok r w
 | [],r,h=>by
  cases h;rfl
 | f::fs,r,h=>by
  simp only[A8K] at h;split at h
  ·rename_i hn;have:=TQ he hx hy h;simp only[Op.eqFields,hn,ne_eq,not_true_eq_false,if_false];exact this
  ·rename_i hn;split at h
   ·rename_i a b ha hb;split at h
    ·rename_i r1 r2 h1 h2;cases h;obtain ⟨cs,va,e1,e2,e3⟩:=JJ (P:=P) (w:=w) (own:=own) (ρ:=λ_=>none) (.p _ _ hx) ha;obtain ⟨cs',vb,e1',e2',e3'⟩:=JJ (P:=P) (w:=w) (own:=own) (ρ:=λ_=>none) (.p _ _ hy) hb;cases e1;cases e1';cases e3 with
     | p _ _ e3 =>
     cases e3' with
     | p _ _ e3' =>
     have g1:=he f.type a b r1 va vb h1 e3 e3';have g2:=TQ he hx hy h2;simp only[Op.eqFields,ne_eq,hn,not_false_eq_true,if_true,Sem.run_bind,e2,e2',Result.andThen_ok,g1];cases r1
     ·simp
     ·simp_all
    ·cases h
   ·cases h
def BHU:∀ (n d:Nat),n<=d->∀ (t:TypeId) (x y:T) (r:Bool) (v u:Value),eqT P n t x y=some r->cS w own x v->cS w own y u->(Op.equalIn d t v u).run P w = .ok r w:=by
 intro n
 induction n with
 | zero=>intro d _ t x y r v u h;cases h
 | succ n ih =>
  intro d hd t x y r v u h hx hy;obtain ⟨d,rfl⟩:∃ d',d=d'+1:=⟨d-1,by omega⟩
  simp only[eqT] at h;split at h
  ·rename_i j hu;split at h
   ·rename_i k a k' b;split at h
    ·rename_i hk;subst hk;cases h;cases hx;cases hy;rw[run_equalIn_int w d t k j a b hu,AEB]
    ·cases h
   ·cases h
  ·rename_i hu;split at h
   ·rename_i a b;cases h;cases hx;cases hy;rw[Op.equalIn];simp only[Sem.run_bind,run_underlying hu,Result.andThen_ok,Sem.run_pure];rw[show (a == b)=decide (a=b) from by rw[Bool.eq_iff_iff,bytes_beq];simp]
   ·cases h
  ·rename_i hu;split at h
   ·rename_i a b;cases h;cases hx;cases hy;exact G8 hu w d a b
   ·cases h
  ·rename_i fs hu;split at h
   ·cases h
   ·rename_i hst;simp only[not_or,Bool.not_eq_false,Bool.not_eq_true] at hst;obtain ⟨hst,ax,ay⟩:=hst;obtain ⟨xs,rfl⟩:=tV ax hx;obtain ⟨ys,rfl⟩:=tV ay hy;have hf:P.fieldsOf t=fs:=by simp[Program.fieldsOf,hu]
    rw[run_equalIn_struct w d t xs ys (by rw[hf];exact hu) hst,hf];exact TQ (λt x y r v u h hx hy=>ih d (by omega) t x y r v u h hx hy) hx hy h
  ·cases h
end
def G7:BinOp->Option Bool
 | .eql=>some true
 | .neq=>some false
 | _=>none
def AZX {op:BinOp} {b:Bool} (h:G7 op=some b):(op = .eql/\b=true)\/(op = .neq/\b=false):=by
 cases op<;>simp[G7] at h
 ·simp_all
 ·simp_all
def nilPtr (x y:D):Option Bool :=
 match x,y with
 | .p (.v (.pointer none)),.p (.v (.pointer none))=>some true
 | .ptr ..,.p (.v (.pointer none))=>some false
 | .p (.ref _),.p (.v (.pointer none))=>some false
 | _,_=>none
def BB8 (x y:D):Option Bool :=
 match x,y with
 | .p (.v (.map none)),.p (.v (.map none))=>some true
 | .map _,.p (.v (.map none))=>some false
 | _,_=>none
def BLK (x y:D):Option Bool :=
 match x,y with
 | .p (.v .nilFunc),.p (.v .nilFunc)=>some true
 | .fn ..,.p (.v .nilFunc)=>some false
 | .p (.fn ..),.p (.v .nilFunc)=>some false
 | _,_=>none
def BOT (P:Program) (t:TypeId) (x y:D):Option Bool :=
 match P.underlying t with
 | some (.pointer _)=>nilPtr x y
 | some (.map _ _)=>BB8 x y
 | some (.func _ _ _)=>BLK x y
 | _=>none
section
variable {P : Program} {w : World} {own : Nat -> Prop} {ρ : Nat -> Option Loc}
variable {pos:Bool}{y:Value}
def qV {op:BinOp} {b:Bool} {t:TypeId} {x:Value} (hop:G7 op=some pos) (hb:∀ op,G7 op=some true->binOp op t x y=(do pure (.bool (<-Op.equal t x y)))) (hb':∀ op,G7 op=some false->binOp op t x y=(do pure (.bool (!(<-Op.equal t x y)))))
  (he:(Op.equal t x y).run P w = .ok b w):(binOp op t x y).run P w = .ok (.bool (b == pos)) w:=by
 cases pos
 ·simp_all
 ·simp_all
def BB7 {op:BinOp} {b:Bool} {t:TypeId} {d e:D} {x:Value} (hx:Rd w own ρ d x) (hy:Rd w own ρ e y) (hop:G7 op=some pos) (hn:BOT P t d e=some b) (p q:Operand) :
  (do eqGuard op t p q x y;binOp op t x y:Sem Value).run P w = .ok (.bool (b == pos)) w:=by
 have e1:∀ op,G7 op=some true->op = .eql:=by intro op h;cases op<;>simp[G7] at h;rfl
 have e2:∀ op,G7 op=some false->op = .neq:=by intro op h;cases op<;>simp[G7] at h;rfl
 unfold BOT at hn;split at hn
 ·rename_i el hu;have fin:∀ a,x = .pointer a->y = .pointer none->b=a.isNone->(do eqGuard op t p q x y;binOp op t x y:Sem Value).run P w = .ok (.bool (b == pos)) w:=by
   rintro a rfl rfl rfl;rw[eqGuard_at_pointer];simp only[Sem.run_bind,Sem.run_pure,Result.andThen_ok];refine qV hop (λop h=>by rw[e1 op h];rfl) (λop h=>by rw[e2 op h];rfl) ?_;unfold Op.equal Op.maxDepth;rw[show (10000:Nat)=9999+1 from rfl,Op.equalIn];simp only[Sem.run_bind,run_underlying hu,Result.andThen_ok];cases a<;>simp
  unfold nilPtr at hn;split at hn
  ·cases hn;cases hx with
   | p _ _ hx=>cases hx;cases hy with
    | p _ _ hy=>cases hy;exact fin none rfl rfl rfl
  ·cases hn;cases hx with
   | ptr=>cases hy with
    | p _ _ hy=>cases hy;exact fin (some _) rfl rfl rfl
  ·cases hn;cases hx with
   | p _ _ hx=>cases hx with
    | ref=>cases hy with
     | p _ _ hy=>cases hy;exact fin (some _) rfl rfl rfl
  ·cases hn
 ·rename_i kt et hu;have fin:∀ a,x = .map a->y = .map none->b=a.isNone->(do eqGuard op t p q x y;binOp op t x y:Sem Value).run P w = .ok (.bool (b == pos)) w:=by
   rintro a rfl rfl rfl;rw[eqGuard_at_map];simp only[Sem.run_bind,Sem.run_pure,Result.andThen_ok];refine qV hop (λop h=>by rw[e1 op h];rfl) (λop h=>by rw[e2 op h];rfl) ?_;unfold Op.equal Op.maxDepth;rw[show (10000:Nat)=9999+1 from rfl,Op.equalIn];simp only[Sem.run_bind,run_underlying hu,Result.andThen_ok];cases a<;>simp
  unfold BB8 at hn;split at hn
  ·cases hn;cases hx with
   | p _ _ hx=>cases hx;cases hy with
    | p _ _ hy=>cases hy;exact fin none rfl rfl rfl
  ·cases hn;cases hx with
   | map=>cases hy with
    | p _ _ hy=>cases hy;exact fin (some _) rfl rfl rfl
  ·cases hn
 ·rename_i a1 a2 a3 hu;have fin:(x = .nilFunc/\b=true\/(∃ f a c,x = .func f a c)/\b=false)->y = .nilFunc->(do eqGuard op t p q x y;binOp op t x y:Sem Value).run P w = .ok (.bool (b == pos)) w:=by
   rintro (⟨rfl,rfl⟩|⟨⟨f,a,c,rfl⟩,rfl⟩) rfl
   ·rw[eqGuard_at_nilFunc];simp only[Sem.run_bind,Sem.run_pure,Result.andThen_ok];refine qV hop (λop h=>by rw[e1 op h];rfl) (λop h=>by rw[e2 op h];rfl) ?_;unfold Op.equal Op.maxDepth;rw[show (10000:Nat)=9999+1 from rfl,Op.equalIn];simp only[Sem.run_bind,run_underlying hu,Result.andThen_ok,Sem.run_pure]
   ·rw[eqGuard_at_func];simp only[Sem.run_bind,Sem.run_pure,Result.andThen_ok];refine qV hop (λop h=>by rw[e1 op h];rfl) (λop h=>by rw[e2 op h];rfl) ?_;unfold Op.equal Op.maxDepth;rw[show (10000:Nat)=9999+1 from rfl,Op.equalIn];simp only[Sem.run_bind,run_underlying hu,Result.andThen_ok,Sem.run_pure]
  unfold BLK at hn;split at hn
  ·cases hn;cases hx with
   | p _ _ hx=>cases hx;cases hy with
    | p _ _ hy=>cases hy;exact fin (.inl ⟨rfl,rfl⟩) rfl
  ·cases hn;cases hx with
   | fn=>cases hy with
    | p _ _ hy=>cases hy;exact fin (.inr ⟨⟨_,_,_,rfl⟩,rfl⟩) rfl
  ·cases hn;cases hx with
   | p _ _ hx=>cases hx with
    | fn=>cases hy with
     | p _ _ hy=>cases hy;exact fin (.inr ⟨⟨_,_,_,rfl⟩,rfl⟩) rfl
  ·cases hn
 ·cases hn
end
end Go.Pv
