/-
  The symbolic executor, part h: how one reasons about what it says.
-/
import Derived.Test.YtipdohmdckdoeaaGreatDoorVfkg
import Derived.Test.YtipdohmdckdoeaaGreatDoorVfwo
set_option linter.defProp false
set_option linter.unusedSimpArgs false
namespace Go.Pv
open Go Go.RowKit
def BdS:(r:Sy)->r.den->Prop
 | .pr a b,x=>BdS a x.1/\BdS b x.2
 | .li r,l=>List.length (α:=r.den) l<=2 ^ 47/\∀ y,List.Mem y (show List r.den from l)->BdS r y
 | .int _,_=>True
 | .bool,_=>True
 | .str,_=>True
 | .any,_=>True
def M3:∀ {r:Sy} {x:r.den},(∀ t∈r.enc x,Bd t)->BdS r x
 | .int _,_,_=>trivial
 | .bool,_,_=>trivial
 | .str,_,_=>trivial
 | .any,_,_=>trivial
 | .pr a b,x,h=>⟨M3 λt ht=>h t (by simp only[Sy.enc,List.mem_append];exact .inl ht),M3 λt ht=>h t (by simp only[Sy.enc,List.mem_append];exact .inr ht)⟩
 | .li r,l,h=>by
  have:=(BC7 _ _).1 (h (.sl false (List.map r.enc l)) (by simp[Sy.enc]));exact ⟨by have h1:(List.map r.enc (show List r.den from l)).length<=2 ^ 47:=this.1;rw[ae] at h1;exact h1,λy hy=>M3 λt ht=>this.2 (r.enc y) (List.mem_map.2 ⟨y,hy,rfl⟩) t ht⟩
variable {ag:Bool}
def ALO {r:Sy} {x:r.den} (hw:(ag||r.w == 1)=true) (h:Bd (aF ag r x)):BdS r x:=by
 cases ag with
 | true=>exact M3 ((AT9 _).1 h)
 | false =>
  have hl:(r.enc x).length=1:=by rw[Sy.cP];simpa using hw
  obtain ⟨u,hu⟩:=List.length_eq_one_iff.1 hl;refine M3 λt ht=>?_;rw[hu] at ht;simp only[aF,hu,hdT] at h;rw[List.mem_singleton.1 ht];exact h
def tD (s:Sh):Bool:=s.all λx=>x.1||x.2.w == 1
def mT {r:Sy} (hw:(ag||r.w == 1)=true) {x y:r.den} (h:aF ag r x=aF ag r y):x=y:=by
 cases ag with
 | true=>simp only[aF,T.agg.injEq] at h;exact Sy.eU r _ _ h
 | false =>
  have hx:(r.enc x).length=1:=by rw[Sy.cP];simpa using hw
  have hy:(r.enc y).length=1:=by rw[Sy.cP];simpa using hw
  obtain ⟨u,hu⟩:=List.length_eq_one_iff.1 hx;obtain ⟨v,hv⟩:=List.length_eq_one_iff.1 hy;simp only[aF,hu,hv,hdT] at h;exact Sy.eU r _ _ (by rw[hu,hv,h])
def NM:∀ {s:Sh},tD s=true->∀ {x y:Sh.den s},Sh.l6 s x=Sh.l6 s y->x=y
 | [],_,_,_,_=>rfl
 | [a],h,x,y,he=>by
  simp only[Sh.l6,List.cons.injEq] at he;exact mT (by simpa [tD] using h) he.1
 | a::b::l,h,x,y,he=>by
  have h':(a.1||a.2.w == 1)=true/\tD (b::l)=true:=by
   unfold tD at h ⊢;rw[List.all_cons,ac] at h;exact h
  simp only[Sh.l6,List.cons.injEq] at he;exact Prod.ext (mT h'.1 he.1) (NM h'.2 he.2)
def cQ:(s:Sh)->Sh.den s->Prop
 | [],_=>True
 | [a],x=>BdS a.2 x
 | a::b::l,x=>BdS a.2 x.1/\cQ (b::l) x.2
def KF:∀ {s:Sh},tD s=true->∀ {x:Sh.den s},(∀ t∈Sh.l6 s x,Bd t)->cQ s x
 | [],_,_,_=>trivial
 | [a],h,x,hb=>ALO (by simpa [tD] using h) (hb _ (by simp[Sh.l6]))
 | a::b::l,h,x,hb=>by
  have h':(a.1||a.2.w == 1)=true/\tD (b::l)=true:=by
   unfold tD at h ⊢;rw[List.all_cons,ac] at h;exact h
  exact ⟨ALO h'.1 (hb _ (by simp[Sh.l6])),KF h'.2 λt ht=>hb t (by simp only[Sh.l6,List.mem_cons];exact .inr ht)⟩
variable {α:Type}
open Classical in
noncomputable def gS (s:Sh) (sp:Sh.den s->Option α) (args:List T):Option α:=if h:∃ x,args=Sh.l6 s x then sp (Classical.choose h) else none
def bH {s:Sh} (hs:tD s=true) {sp:Sh.den s->Option α} {args:List T} (x:Sh.den s) (h:args=Sh.l6 s x):gS s sp args=sp x:=by
 unfold gS;have he:∃ x,args=Sh.l6 s x:=⟨x,h⟩
 rw[dif_pos he]
 congr 1
 exact NM hs ((Classical.choose_spec he).symm.trans h)
def zK {s:Sh} {sp:Sh.den s->Option α} {args:List T} {r:α} (h:gS s sp args=some r):∃ x,args=Sh.l6 s x/\sp x=some r:=by
 unfold gS at h;split at h
 ·rename_i he;exact ⟨_,Classical.choose_spec he,h⟩
 ·cases h
variable {P:Program}{E:Env}{Hs:FuncId->Hint}
def FH (hE:aR P E) (hm:P.follows .mixedOrders=true) (hn:cR P=true) (hh:gE E) (k:Nat) {f:FuncId} {s:Sh} {sp:Sh.den s->Option T} (hex:∃ fn c,P.funcs[f]? = some fn/\fn.body=some c) (hs:tD s=true)
  (h:∀ x r,sp x=some r->cQ s x->dM bX P E Hs k f (Sh.l6 s x) (λy=>y=r)):aO P f (gS s sp) :=
 HV hE hm hn hh k hex λargs r hg hb=>by
  obtain ⟨x,rfl,hx⟩:=zK hg;exact h x r hx (KF hs hb)
def BBP (hE:aR P E) (hm:P.follows .mixedOrders=true) (hn:cR P=true) (hh:gE E) (k:Nat) {f:FuncId} {s:Sh} {sp:Sh.den s->Option T} (hex:∃ fn c,P.funcs[f]? = some fn/\fn.body=some c) (hs:tD s=true)
  (h:∀ x r,sp x=some r->cQ s x->wB bX P E Hs k f (Sh.l6 s x) (λy=>y=r)):kZ P f (gS s sp) :=
 AC9 hE hm hn hh k hex λargs r hg hb=>by
  obtain ⟨x,rfl,hx⟩:=zK hg;exact h x r hx (KF hs hb)
def A46 (hE:aR P E) (hm:P.follows .mixedOrders=true) (hn:cR P=true) (hh:gE E) (k:Nat) {f:FuncId} {ci:Nat} {s:Sh} {sp:Sh.den s->Option T} (hex:∃ fn c,P.funcs[f]? = some fn/\fn.body=some c) (hs:tD s=true)
  (h:∀ x r,sp x=some r->cQ s x->YD bX P E Hs k ci f (Sh.l6 s x) (λy=>y=r)):MJ P f ci (gS s sp) :=
 ATJ hE hm hn hh k hex λargs r hg hb=>by
  obtain ⟨x,rfl,hx⟩:=zK hg;exact h x r hx (KF hs hb)
def A3U:List (Nat×LH)->Nat->LH
 | [],_=>.none
 | (a,h)::l,r=>match r == a with
  | true=>h
  | false=>A3U l r
def cF (f:FuncId) (l:List (Nat×LH)) (n:FuncId->Hint):FuncId->Hint:=λg=>match g == f with
 | true=>⟨A3U l,λ_ _=>none,λ_=>none⟩
 | false=>n g
variable {A1:Type}
abbrev yW (P:Program) (f:FuncId) (g:List T->Option T) (sp:A1->Option T) (B:A1->Prop) (F:A1->(T->Prop)->Prop):Prop:=(∀ (x1:A1) r,sp x1=some r->B x1->F x1 (λy=>y=r))->aO P f g
variable {A2:Type}
abbrev tG (P:Program) (f:FuncId) (g:List T->Option T) (sp:A1×A2->Option T) (B:A1×A2->Prop) (F:A1->A2->(T->Prop)->Prop):Prop:=(∀ (x1:A1) (x2:A2) r,sp (x1,x2)=some r->B (x1,x2)->F x1 x2 (λy=>y=r))->aO P f g
variable {A3:Type}
abbrev Of3 (P:Program) (f:FuncId) (g:List T->Option T) (sp:A1×A2×A3->Option T) (B:A1×A2×A3->Prop) (F:A1->A2->A3->(T->Prop)->Prop):Prop:=(∀ (x1:A1) (x2:A2) (x3:A3) r,sp (x1,x2,x3)=some r->B (x1,x2,x3)->F x1 x2 x3 (λy=>y=r))->aO P f g
abbrev Of4 (P:Program) (f:FuncId) (g:List T->Option T) {A4:Type} (sp:A1×A2×A3×A4->Option T) (B:A1×A2×A3×A4->Prop) (F:A1->A2->A3->A4->(T->Prop)->Prop):Prop:=(∀ (x1:A1) (x2:A2) (x3:A3) (x4:A4) r,sp (x1,x2,x3,x4)=some r->B (x1,x2,x3,x4)->F x1 x2 x3 x4 (λy=>y=r))->aO P f g
variable {a1:Bool×Sy}
def kW {sp:a1.2.den->Option T} {F:a1.2.den->(T->Prop)->Prop} {k:Nat} {f:FuncId} (hE:aR P E) (hm:P.follows .mixedOrders=true) (hn:cR P=true) (hh:gE E) (hex:∃ fn c,P.funcs[f]? = some fn/\fn.body=some c) (hs:tD [a1]=true) (hF:∀ x1 R,dM bX P E Hs k f (Sh.l6 [a1] x1) R=F x1 R)
  (h:∀ x1 r,sp x1=some r->cQ [a1] x1->F x1 (λy=>y=r)):aO P f (gS (s:=[a1]) sp) :=
 FH hE hm hn hh k hex hs λx r h1 h2=>by
  rw[hF];exact h x r h1 h2
variable {a2:Bool×Sy}
def iR {sp:a1.2.den×a2.2.den->Option T} {F:a1.2.den->a2.2.den->(T->Prop)->Prop} {k:Nat} {f:FuncId} (hE:aR P E) (hm:P.follows .mixedOrders=true) (hn:cR P=true) (hh:gE E) (hex:∃ fn c,P.funcs[f]? = some fn/\fn.body=some c) (hs:tD [a1,a2]=true) (hF:∀ x1 x2 R,dM bX P E Hs k f (Sh.l6 [a1,a2] (x1,x2)) R=F x1 x2 R)
  (h:∀ x1 x2 r,sp (x1,x2)=some r->cQ [a1,a2] (x1,x2)->F x1 x2 (λy=>y=r)):aO P f (gS (s:=[a1,a2]) sp) :=
 FH hE hm hn hh k hex hs λx r h1 h2=>by
  obtain ⟨x1,x2⟩:=x;rw[hF];exact h x1 x2 r h1 h2
variable {a3:Bool×Sy}
def J4 {sp:a1.2.den×a2.2.den×a3.2.den->Option T} {F:a1.2.den->a2.2.den->a3.2.den->(T->Prop)->Prop} {k:Nat} {f:FuncId} (hE:aR P E) (hm:P.follows .mixedOrders=true) (hn:cR P=true) (hh:gE E) (hex:∃ fn c,P.funcs[f]? = some fn/\fn.body=some c) (hs:tD [a1,a2,a3]=true) (hF:∀ x1 x2 x3 R,dM bX P E Hs k f (Sh.l6 [a1,a2,a3] (x1,x2,x3)) R=F x1 x2 x3 R)
  (h:∀ x1 x2 x3 r,sp (x1,x2,x3)=some r->cQ [a1,a2,a3] (x1,x2,x3)->F x1 x2 x3 (λy=>y=r)):aO P f (gS (s:=[a1,a2,a3]) sp) :=
 FH hE hm hn hh k hex hs λx r h1 h2=>by
  obtain ⟨x1,x2,x3⟩:=x;rw[hF];exact h x1 x2 x3 r h1 h2
def BNM {a4:Bool×Sy} {sp:a1.2.den×a2.2.den×a3.2.den×a4.2.den->Option T} {F:a1.2.den->a2.2.den->a3.2.den->a4.2.den->(T->Prop)->Prop} {k:Nat} {f:FuncId} (hE:aR P E) (hm:P.follows .mixedOrders=true) (hn:cR P=true) (hh:gE E) (hex:∃ fn c,P.funcs[f]? = some fn/\fn.body=some c) (hs:tD [a1,a2,a3,a4]=true) (hF:∀ x1 x2 x3 x4 R,dM bX P E Hs k f (Sh.l6 [a1,a2,a3,a4] (x1,x2,x3,x4)) R=F x1 x2 x3 x4 R)
  (h:∀ x1 x2 x3 x4 r,sp (x1,x2,x3,x4)=some r->cQ [a1,a2,a3,a4] (x1,x2,x3,x4)->F x1 x2 x3 x4 (λy=>y=r)):aO P f (gS (s:=[a1,a2,a3,a4]) sp) :=
 FH hE hm hn hh k hex hs λx r h1 h2=>by
  obtain ⟨x1,x2,x3,x4⟩:=x;rw[hF];exact h x1 x2 x3 x4 r h1 h2
variable {X:Type}
open Classical in
noncomputable def gA (A:X->List T) (sp:X->Option α) (args:List T):Option α:=if h:∃ x,args=A x then sp (Classical.choose h) else none
variable {A:X->List T}{sp:X->Option α}
def dY (hA:∀ x y,A x=A y->x=y) (x:X):gA A sp (A x)=sp x:=by
 unfold gA;have he:∃ y,A x=A y:=⟨x,rfl⟩
 rw[dif_pos he]
 congr 1
 exact hA _ _ (Classical.choose_spec he).symm
def KG {args:List T} {r:α} (h:gA A sp args=some r):∃ x,args=A x/\sp x=some r:=by
 unfold gA at h;split at h
 ·rename_i he;exact ⟨_,Classical.choose_spec he,h⟩
 ·cases h
def cE (hE:aR P E) (hm:P.follows .mixedOrders=true) (hn:cR P=true) (hh:gE E) (k:Nat) {f:FuncId} {sp:X->Option T} (hex:∃ fn c,P.funcs[f]? = some fn/\fn.body=some c)
  (h:∀ x r,sp x=some r->(∀ t∈A x,Bd t)->dM bX P E Hs k f (A x) (λy=>y=r)):aO P f (gA A sp) :=
 HV hE hm hn hh k hex λargs r hg hb=>by
  obtain ⟨x,rfl,hx⟩:=KG hg;exact h x r hx hb
def EB (hE:aR P E) (hm:P.follows .mixedOrders=true) (hn:cR P=true) (hh:gE E) (k:Nat) {f:FuncId} {sp:X->Option (List (iII×Int))} (hex:∃ fn c,P.funcs[f]? = some fn/\fn.body=some c)
  (h:∀ x r,sp x=some r->(∀ t∈A x,Bd t)->wB bX P E Hs k f (A x) (λy=>y = .mp (bP r))):kZ P f (sR (gA A sp)) :=
 AC9 hE hm hn hh k hex λargs r hg hb=>by
  unfold sR at hg;simp only[aa] at hg;obtain ⟨es,hg,rfl⟩:=hg;obtain ⟨x,rfl,hx⟩:=KG hg;exact h x es hx hb
def kH (A B:Prop):aD true A B=A:=propext ⟨λh=>h,λh=>h⟩
def pA (A B:Prop):aD false A B=B:=propext ⟨λh=>h,λh=>h⟩
def ACS (b:Bool) (A B:Prop):aD b A B=if b=true then A else B:=by cases b<;>rfl
def A5M (b:Bool) (K:Prop):b7 b K=(b=true/\K):=rfl
def dS (x:bE) (K:Prop):gH x x K=K:=by simp[gH]
def zQ (S:Type) (A:(S->Prop)->Prop) (K:S->Prop):sA S A K=A K:=rfl
def rZ {r:Sy} {l:List r.den} {i:Nat} {y:r.den}:(List.map r.enc l)[i]? = some (r.enc y)↔l[i]? = some y:=by
 rw[List.getElem?_map];cases h:l[i]? with
 | none=>simp
 | some z=>simp only[Option.map_some,Option.some.injEq];exact ⟨Sy.eU r _ _,λe=>by rw[e]⟩
def ATU (r:Sy) (l:List r.den) (i:Int) (K:r.den->Prop):aX r (List.map r.enc l) i K = ∃ y,0<=i/\l[i.toNat]? = some y/\K y:=by
 simp only[aX,rZ]
def bG {r:Sy} {l:List r.den} {k:Nat} (h:k<l.length) (K:r.den->Prop):aX r (List.map r.enc l) (k:Int) K=K l[k]:=by
 rw[ATU];apply propext;constructor
 ·rintro ⟨y,_,h1,h2⟩;rw[Int.toNat_natCast,List.getElem?_eq_getElem h] at h1;cases h1;exact h2
 ·exact λhk=>⟨l[k],by omega,by rw[Int.toNat_natCast,List.getElem?_eq_getElem h],hk⟩
def pT {r:Sy} {l:List r.den} {k:Nat} (h:k<l.length) (K:List T->Prop):wP (List.map r.enc l) k K=K (r.enc l[k]):=by
 unfold wP;have e:(List.map r.enc l)[k]? = some (r.enc l[k]):=rZ.2 (List.getElem?_eq_getElem h);apply propext;constructor
 ·rintro ⟨y,h1,h2⟩;rw[e] at h1;cases h1;exact h2
 ·exact λhk=>⟨_,e,hk⟩
def jU {r:Sy} {l:List r.den} {k:Nat} (h:k<l.length) (K:r.den->Prop):jD r (List.map r.enc l) k 0 K=K l[k]:=by
 unfold jD;have e:(List.map r.enc l)[k]? = some (r.enc l[k]):=rZ.2 (List.getElem?_eq_getElem h);have e2:((r.enc l[k]).drop 0).take r.w=r.enc l[k]:=by rw[List.drop_zero,<-Sy.cP r l[k],List.take_length]
 apply propext;constructor
 ·rintro ⟨row,y,h1,_,h2,h3⟩;rw[e] at h1;cases h1;rw[e2] at h2;rw[Sy.eU r _ _ h2];exact h3
 ·exact λhk=>⟨_,_,e,by rw[Sy.cP];omega,e2,hk⟩
def AHE:∀ {s:Sh},tD s=true->∀ {x y:Sh.den s},Sh.enc s x=Sh.enc s y->x=y
 | [],_,_,_,_=>rfl
 | [a],h,x,y,he=>mT (by simpa [tD] using h) he
 | a::b::l,h,x,y,he=>by
  simp only[Sh.enc,T.bY.injEq] at he;exact NM h he
def yZ {s:Sh} (hs:tD s=true) (y:Sh.den s) (K:Sh.den s->Prop):aM s (some (Sh.enc s y)) K=K y:=by
 apply propext;constructor
 ·rintro ⟨z,h1,h2⟩;rw[AHE hs (Option.some.inj h1)];exact h2
 ·exact λhk=>⟨y,rfl,hk⟩
def eR {r:Sy} {a:Option (List (List T))} {l:List r.den} (h:a=some (List.map r.enc l)) (K:List r.den->Prop) (hk:K l):fB r a K:=⟨l,h,hk⟩
def FN {r:Sy} {l:List r.den} {k:Nat} (h:k<l.length):(List.map r.enc l).set k (r.enc l[k])=List.map r.enc l:=by
 have:(List.map r.enc l)[k]'(by simpa using h)=r.enc l[k]:=by simp
 rw[<-this,List.set_getElem_self]
def p9 {p:α->Bool} {l:List α} {k:Nat} (h:k<l.length):(l.drop k).find? p=if p l[k]=true then some l[k] else (l.drop (k+1)).find? p:=by
 rw[List.drop_eq_getElem_cons h,List.find?_cons];cases p l[k]<;>rfl
def aK {s:Sh} {a:Option T} {y:Sh.den s} {K:Sh.den s->Prop} (h:a=some (Sh.enc s y)) (hk:K y):aM s a K:=⟨y,h,hk⟩
def Sy.pure:Sy->Bool
 | .any=>false
 | .pr a b=>a.pure&&b.pure
 | .li r=>r.pure
 | _=>true
def B4:∀ {r:Sy} (x:r.den),r.pure=true->(r.enc x).map (T.canon 0)=r.enc x
 | .int _,_,_=>rfl
 | .bool,_,_=>rfl
 | .str,_,_=>rfl
 | .any,_,h=>by simp[Sy.pure] at h
 | .pr a b,x,h=>by
  simp only[Sy.pure,ac] at h;simp only[Sy.enc,List.map_append,B4 x.1 h.1,B4 x.2 h.2]
 | .li r,_,_=>rfl
def M9 {r:Sy} (h:r.pure=true) (l:List r.den):kO (List.map r.enc l)=List.map r.enc l:=by
 unfold kO;rw[List.map_map];exact List.map_congr_left λx _=>B4 x h
def Z5 (a b:List (List T)):kO (a++b)=kO a++kO b:=by simp[kO]
def eX {r:Sy} (h:r.pure=true) (l:List r.den) (K:List r.den->Prop):iT r (List.map r.enc l) K=K l:=by
 apply propext;constructor
 ·rintro ⟨l',h1,h2⟩;rw[M9 h] at h1;rw[map_inj (Sy.eU r) h1];exact h2
 ·exact λhk=>⟨l,M9 h l,hk⟩
def AZ3 {r:Sy} (K:List r.den->Prop):iT r [] K=K []:=by
 apply propext;constructor
 ·rintro ⟨l',h1,h2⟩;cases l' with
  | nil=>exact h2
  | cons a l=>simp[kO] at h1
 ·exact λhk=>⟨[],rfl,hk⟩
def GW {r:Sy} (h:r.pure=true) (l:List r.den) (row:List T) (y:r.den) (hy:row.map (T.canon 0)=r.enc y) (K:List r.den->Prop):iT r (List.map r.enc l++[row]) K=K (l++[y]):=by
 have e:kO (List.map r.enc l++[row])=List.map r.enc (l++[y]):=by
  rw[Z5,M9 h,List.map_append];simp[kO,hy]
 apply propext;constructor
 ·rintro ⟨l',h1,h2⟩;rw[e] at h1;rw[map_inj (Sy.eU r) h1];exact h2
 ·exact λhk=>⟨_,e,hk⟩
variable {S:Type}{F:(S->Prop)->S->Prop}
def ASC {s:S} (I:S->Prop) (μ:S->Nat) (h0:I s) (step:∀ (X:S->Prop) (s:S),I s->(∀ s',I s'->μ s'<μ s->X s')->F X s):a8 S F s:=by
 intro X hX;have key:∀ n s,μ s<n->I s->X s:=by
  intro n
  induction n with
  | zero=>intro s h;omega
  | succ n ih=>intro s hn hi;exact hX s (step X s hi λs' h1 h2=>ih s' (by omega) h1)
 exact key (μ s+1) s (by omega) h0
def bN {s:S} (n:Nat) (J:Nat->S->Prop) (h0:J 0 s) (step:∀ (X:S->Prop) (k:Nat) (s:S),k<=n->J k s->(∀ s',k<n->J (k+1) s'->X s')->F X s):a8 S F s:=by
 intro X hX;have key:∀ m k s,n-k<m->k<=n->J k s->X s:=by
  intro m
  induction m with
  | zero=>intro k s h;omega
  | succ m ih=>intro k s hm hk hj;exact hX s (step X k s hk hj λs' h1 h2=>ih (k+1) s' (by omega) (by omega) h2)
 exact key (n+1) 0 s (by omega) (by omega) h0
def HQ {l:List α} {k:Nat}:decide ((k:Int)<(l.length:Int))=decide (k<l.length):=by simp
end Go.Pv
