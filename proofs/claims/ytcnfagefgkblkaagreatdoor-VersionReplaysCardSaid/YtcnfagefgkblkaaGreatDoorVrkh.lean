/-
  The symbolic executor, part h: how one reasons about what it says.
-/
import Derived.Test.YtcnfagefgkblkaaGreatDoorVrkg
import Derived.Test.YtcnfagefgkblkaaGreatDoorVrwo
set_option linter.defProp false
set_option linter.unusedSimpArgs false
namespace Go.Pv
open Go Go.RowKit
def BdS:(r:Sy)->r.den->Prop
 | .pr a b,x=>BdS a x.1/\BdS b x.2
 | .li r,l=>List.length (α:=r.den) l<=2 ^ 47/\∀ y,List.Mem y (show List r.den from l)->BdS r y
 | .int _,_=>True
 | .bool,_=>True
 | .str,_=>True
 | .any,_=>True
def OM:∀ {r:Sy} {x:r.den},(∀ t∈r.enc x,Bd t)->BdS r x
 | .int _,_,_=>trivial
 | .bool,_,_=>trivial
 | .str,_,_=>trivial
 | .any,_,_=>trivial
 | .pr a b,x,h=>⟨OM λt ht=>h t (by simp only[Sy.enc,List.mem_append];exact .inl ht),OM λt ht=>h t (by simp only[Sy.enc,List.mem_append];exact .inr ht)⟩
 | .li r,l,h=>by
  have:=(BGE _ _).1 (h (.sl false (List.map r.enc l)) (by simp[Sy.enc]));exact ⟨by have h1:(List.map r.enc (show List r.den from l)).length<=2 ^ 47:=this.1;rw[ad] at h1;exact h1,λy hy=>OM λt ht=>this.2 (r.enc y) (List.mem_map.2 ⟨y,hy,rfl⟩) t ht⟩
variable {ag:Bool}
def AOO {r:Sy} {x:r.den} (hw:(ag||r.w == 1)=true) (h:Bd (aF ag r x)):BdS r x:=by
 cases ag with
 | true=>exact OM ((AXS _).1 h)
 | false =>
  have hl:(r.enc x).length=1:=by rw[Sy.dA];simpa using hw
  obtain ⟨u,hu⟩:=List.length_eq_one_iff.1 hl;refine OM λt ht=>?_;rw[hu] at ht;simp only[aF,hu,hdT] at h;rw[List.mem_singleton.1 ht];exact h
def rO (s:Sh):Bool:=s.all λx=>x.1||x.2.w == 1
def mR {r:Sy} (hw:(ag||r.w == 1)=true) {x y:r.den} (h:aF ag r x=aF ag r y):x=y:=by
 cases ag with
 | true=>simp only[aF,T.agg.injEq] at h;exact Sy.c0 r _ _ h
 | false =>
  have hx:(r.enc x).length=1:=by rw[Sy.dA];simpa using hw
  have hy:(r.enc y).length=1:=by rw[Sy.dA];simpa using hw
  obtain ⟨u,hu⟩:=List.length_eq_one_iff.1 hx;obtain ⟨v,hv⟩:=List.length_eq_one_iff.1 hy;simp only[aF,hu,hv,hdT] at h;exact Sy.c0 r _ _ (by rw[hu,hv,h])
def O1:∀ {s:Sh},rO s=true->∀ {x y:Sh.den s},Sh.iS s x=Sh.iS s y->x=y
 | [],_,_,_,_=>rfl
 | [a],h,x,y,he=>by
  simp only[Sh.iS,List.cons.injEq] at he;exact mR (by simpa [rO] using h) he.1
 | a::b::l,h,x,y,he=>by
  have h':(a.1||a.2.w == 1)=true/\rO (b::l)=true:=by
   unfold rO at h ⊢;rw[List.all_cons,ac] at h;exact h
  simp only[Sh.iS,List.cons.injEq] at he;exact Prod.ext (mR h'.1 he.1) (O1 h'.2 he.2)
def bY:(s:Sh)->Sh.den s->Prop
 | [],_=>True
 | [a],x=>BdS a.2 x
 | a::b::l,x=>BdS a.2 x.1/\bY (b::l) x.2
def ER:∀ {s:Sh},rO s=true->∀ {x:Sh.den s},(∀ t∈Sh.iS s x,Bd t)->bY s x
 | [],_,_,_=>trivial
 | [a],h,x,hb=>AOO (by simpa [rO] using h) (hb _ (by simp[Sh.iS]))
 | a::b::l,h,x,hb=>by
  have h':(a.1||a.2.w == 1)=true/\rO (b::l)=true:=by
   unfold rO at h ⊢;rw[List.all_cons,ac] at h;exact h
  exact ⟨AOO h'.1 (hb _ (by simp[Sh.iS])),ER h'.2 λt ht=>hb t (by simp only[Sh.iS,List.mem_cons];exact .inr ht)⟩
variable {α:Type}
open Classical in
noncomputable def gS (s:Sh) (sp:Sh.den s->Option α) (args:List T):Option α:=if h:∃ x,args=Sh.iS s x then sp (Classical.choose h) else none
def bA {s:Sh} (hs:rO s=true) {sp:Sh.den s->Option α} {args:List T} (x:Sh.den s) (h:args=Sh.iS s x):gS s sp args=sp x:=by
 unfold gS;have he:∃ x,args=Sh.iS s x:=⟨x,h⟩
 rw[dif_pos he]
 congr 1
 exact O1 hs ((Classical.choose_spec he).symm.trans h)
def vR {s:Sh} {sp:Sh.den s->Option α} {args:List T} {r:α} (h:gS s sp args=some r):∃ x,args=Sh.iS s x/\sp x=some r:=by
 unfold gS at h;split at h
 ·rename_i he;exact ⟨_,Classical.choose_spec he,h⟩
 ·cases h
variable {P:Program}{E:Env}{Hs:FuncId->Hint}
def GJ (hE:aQ P E) (hm:P.follows .mixedOrders=true) (hn:cI P=true) (hh:fH E) (k:Nat) {f:FuncId} {s:Sh} {sp:Sh.den s->Option T} (hex:∃ fn c,P.funcs[f]? = some fn/\fn.body=some c) (hs:rO s=true)
  (h:∀ x r,sp x=some r->bY s x->dV bS P E Hs k f (Sh.iS s x) (λy=>y=r)):aM P f (gS s sp) :=
 I8 hE hm hn hh k hex λargs r hg hb=>by
  obtain ⟨x,rfl,hx⟩:=vR hg;exact h x r hx (ER hs hb)
def BEV (hE:aQ P E) (hm:P.follows .mixedOrders=true) (hn:cI P=true) (hh:fH E) (k:Nat) {f:FuncId} {s:Sh} {sp:Sh.den s->Option T} (hex:∃ fn c,P.funcs[f]? = some fn/\fn.body=some c) (hs:rO s=true)
  (h:∀ x r,sp x=some r->bY s x->wS bS P E Hs k f (Sh.iS s x) (λy=>y=r)):kR P f (gS s sp) :=
 AFP hE hm hn hh k hex λargs r hg hb=>by
  obtain ⟨x,rfl,hx⟩:=vR hg;exact h x r hx (ER hs hb)
def A8D (hE:aQ P E) (hm:P.follows .mixedOrders=true) (hn:cI P=true) (hh:fH E) (k:Nat) {f:FuncId} {ci:Nat} {s:Sh} {sp:Sh.den s->Option T} (hex:∃ fn c,P.funcs[f]? = some fn/\fn.body=some c) (hs:rO s=true)
  (h:∀ x r,sp x=some r->bY s x->AAH bS P E Hs k ci f (Sh.iS s x) (λy=>y=r)):N4 P f ci (gS s sp) :=
 AW3 hE hm hn hh k hex λargs r hg hb=>by
  obtain ⟨x,rfl,hx⟩:=vR hg;exact h x r hx (ER hs hb)
def P9:List (Nat×LH)->Nat->LH
 | [],_=>.none
 | (a,h)::l,r=>match r == a with
  | true=>h
  | false=>P9 l r
def bT (f:FuncId) (l:List (Nat×LH)) (n:FuncId->Hint):FuncId->Hint:=λg=>match g == f with
 | true=>⟨P9 l,λ_ _=>none,λ_=>none⟩
 | false=>n g
variable {A1:Type}
abbrev qM (P:Program) (f:FuncId) (g:List T->Option T) (sp:A1->Option T) (B:A1->Prop) (F:A1->(T->Prop)->Prop):Prop:=(∀ (x1:A1) r,sp x1=some r->B x1->F x1 (λy=>y=r))->aM P f g
variable {A2:Type}
abbrev qN (P:Program) (f:FuncId) (g:List T->Option T) (sp:A1×A2->Option T) (B:A1×A2->Prop) (F:A1->A2->(T->Prop)->Prop):Prop:=(∀ (x1:A1) (x2:A2) r,sp (x1,x2)=some r->B (x1,x2)->F x1 x2 (λy=>y=r))->aM P f g
variable {A3:Type}
abbrev Of3 (P:Program) (f:FuncId) (g:List T->Option T) (sp:A1×A2×A3->Option T) (B:A1×A2×A3->Prop) (F:A1->A2->A3->(T->Prop)->Prop):Prop:=(∀ (x1:A1) (x2:A2) (x3:A3) r,sp (x1,x2,x3)=some r->B (x1,x2,x3)->F x1 x2 x3 (λy=>y=r))->aM P f g
abbrev Of4 (P:Program) (f:FuncId) (g:List T->Option T) {A4:Type} (sp:A1×A2×A3×A4->Option T) (B:A1×A2×A3×A4->Prop) (F:A1->A2->A3->A4->(T->Prop)->Prop):Prop:=(∀ (x1:A1) (x2:A2) (x3:A3) (x4:A4) r,sp (x1,x2,x3,x4)=some r->B (x1,x2,x3,x4)->F x1 x2 x3 x4 (λy=>y=r))->aM P f g
variable {a1:Bool×Sy}
def gK {sp:a1.2.den->Option T} {F:a1.2.den->(T->Prop)->Prop} {k:Nat} {f:FuncId} (hE:aQ P E) (hm:P.follows .mixedOrders=true) (hn:cI P=true) (hh:fH E) (hex:∃ fn c,P.funcs[f]? = some fn/\fn.body=some c) (hs:rO [a1]=true) (hF:∀ x1 R,dV bS P E Hs k f (Sh.iS [a1] x1) R=F x1 R)
  (h:∀ x1 r,sp x1=some r->bY [a1] x1->F x1 (λy=>y=r)):aM P f (gS (s:=[a1]) sp) :=
 GJ hE hm hn hh k hex hs λx r h1 h2=>by
  rw[hF];exact h x r h1 h2
variable {a2:Bool×Sy}
def gL {sp:a1.2.den×a2.2.den->Option T} {F:a1.2.den->a2.2.den->(T->Prop)->Prop} {k:Nat} {f:FuncId} (hE:aQ P E) (hm:P.follows .mixedOrders=true) (hn:cI P=true) (hh:fH E) (hex:∃ fn c,P.funcs[f]? = some fn/\fn.body=some c) (hs:rO [a1,a2]=true) (hF:∀ x1 x2 R,dV bS P E Hs k f (Sh.iS [a1,a2] (x1,x2)) R=F x1 x2 R)
  (h:∀ x1 x2 r,sp (x1,x2)=some r->bY [a1,a2] (x1,x2)->F x1 x2 (λy=>y=r)):aM P f (gS (s:=[a1,a2]) sp) :=
 GJ hE hm hn hh k hex hs λx r h1 h2=>by
  obtain ⟨x1,x2⟩:=x;rw[hF];exact h x1 x2 r h1 h2
variable {a3:Bool×Sy}
def S2 {sp:a1.2.den×a2.2.den×a3.2.den->Option T} {F:a1.2.den->a2.2.den->a3.2.den->(T->Prop)->Prop} {k:Nat} {f:FuncId} (hE:aQ P E) (hm:P.follows .mixedOrders=true) (hn:cI P=true) (hh:fH E) (hex:∃ fn c,P.funcs[f]? = some fn/\fn.body=some c) (hs:rO [a1,a2,a3]=true) (hF:∀ x1 x2 x3 R,dV bS P E Hs k f (Sh.iS [a1,a2,a3] (x1,x2,x3)) R=F x1 x2 x3 R)
  (h:∀ x1 x2 x3 r,sp (x1,x2,x3)=some r->bY [a1,a2,a3] (x1,x2,x3)->F x1 x2 x3 (λy=>y=r)):aM P f (gS (s:=[a1,a2,a3]) sp) :=
 GJ hE hm hn hh k hex hs λx r h1 h2=>by
  obtain ⟨x1,x2,x3⟩:=x;rw[hF];exact h x1 x2 x3 r h1 h2
def BPQ {a4:Bool×Sy} {sp:a1.2.den×a2.2.den×a3.2.den×a4.2.den->Option T} {F:a1.2.den->a2.2.den->a3.2.den->a4.2.den->(T->Prop)->Prop} {k:Nat} {f:FuncId} (hE:aQ P E) (hm:P.follows .mixedOrders=true) (hn:cI P=true) (hh:fH E) (hex:∃ fn c,P.funcs[f]? = some fn/\fn.body=some c) (hs:rO [a1,a2,a3,a4]=true) (hF:∀ x1 x2 x3 x4 R,dV bS P E Hs k f (Sh.iS [a1,a2,a3,a4] (x1,x2,x3,x4)) R=F x1 x2 x3 x4 R)
  (h:∀ x1 x2 x3 x4 r,sp (x1,x2,x3,x4)=some r->bY [a1,a2,a3,a4] (x1,x2,x3,x4)->F x1 x2 x3 x4 (λy=>y=r)):aM P f (gS (s:=[a1,a2,a3,a4]) sp) :=
 GJ hE hm hn hh k hex hs λx r h1 h2=>by
  obtain ⟨x1,x2,x3,x4⟩:=x;rw[hF];exact h x1 x2 x3 x4 r h1 h2
variable {X:Type}
open Classical in
noncomputable def gA (A:X->List T) (sp:X->Option α) (args:List T):Option α:=if h:∃ x,args=A x then sp (Classical.choose h) else none
variable {A:X->List T}{sp:X->Option α}
def eR (hA:∀ x y,A x=A y->x=y) (x:X):gA A sp (A x)=sp x:=by
 unfold gA;have he:∃ y,A x=A y:=⟨x,rfl⟩
 rw[dif_pos he]
 congr 1
 exact hA _ _ (Classical.choose_spec he).symm
def XR {args:List T} {r:α} (h:gA A sp args=some r):∃ x,args=A x/\sp x=some r:=by
 unfold gA at h;split at h
 ·rename_i he;exact ⟨_,Classical.choose_spec he,h⟩
 ·cases h
def cG (hE:aQ P E) (hm:P.follows .mixedOrders=true) (hn:cI P=true) (hh:fH E) (k:Nat) {f:FuncId} {sp:X->Option T} (hex:∃ fn c,P.funcs[f]? = some fn/\fn.body=some c)
  (h:∀ x r,sp x=some r->(∀ t∈A x,Bd t)->dV bS P E Hs k f (A x) (λy=>y=r)):aM P f (gA A sp) :=
 I8 hE hm hn hh k hex λargs r hg hb=>by
  obtain ⟨x,rfl,hx⟩:=XR hg;exact h x r hx hb
def E6 (hE:aQ P E) (hm:P.follows .mixedOrders=true) (hn:cI P=true) (hh:fH E) (k:Nat) {f:FuncId} {sp:X->Option (List (iII×Int))} (hex:∃ fn c,P.funcs[f]? = some fn/\fn.body=some c)
  (h:∀ x r,sp x=some r->(∀ t∈A x,Bd t)->wS bS P E Hs k f (A x) (λy=>y = .mp (bN r))):kR P f (sX (gA A sp)) :=
 AFP hE hm hn hh k hex λargs r hg hb=>by
  unfold sX at hg;simp only[aa] at hg;obtain ⟨es,hg,rfl⟩:=hg;obtain ⟨x,rfl,hx⟩:=XR hg;exact h x es hx hb
def kC (A B:Prop):aD true A B=A:=propext ⟨λh=>h,λh=>h⟩
def nW (A B:Prop):aD false A B=B:=propext ⟨λh=>h,λh=>h⟩
def AE8 (b:Bool) (A B:Prop):aD b A B=if b=true then A else B:=by cases b<;>rfl
def A8Y (b:Bool) (K:Prop):bH b K=(b=true/\K):=rfl
def cU (x:bE) (K:Prop):fK x x K=K:=by simp[fK]
def A6 (S:Type) (A:(S->Prop)->Prop) (K:S->Prop):sD S A K=A K:=rfl
def pL {r:Sy} {l:List r.den} {i:Nat} {y:r.den}:(List.map r.enc l)[i]? = some (r.enc y)↔l[i]? = some y:=by
 rw[List.getElem?_map];cases h:l[i]? with
 | none=>simp
 | some z=>simp only[Option.map_some,Option.some.injEq];exact ⟨Sy.c0 r _ _,λe=>by rw[e]⟩
def AXB (r:Sy) (l:List r.den) (i:Int) (K:r.den->Prop):aP r (List.map r.enc l) i K = ∃ y,0<=i/\l[i.toNat]? = some y/\K y:=by
 simp only[aP,pL]
def bC {r:Sy} {l:List r.den} {k:Nat} (h:k<l.length) (K:r.den->Prop):aP r (List.map r.enc l) (k:Int) K=K l[k]:=by
 rw[AXB];apply propext;constructor
 ·rintro ⟨y,_,h1,h2⟩;rw[Int.toNat_natCast,List.getElem?_eq_getElem h] at h1;cases h1;exact h2
 ·exact λhk=>⟨l[k],by omega,by rw[Int.toNat_natCast,List.getElem?_eq_getElem h],hk⟩
def pV {r:Sy} {l:List r.den} {k:Nat} (h:k<l.length) (K:List T->Prop):GN (List.map r.enc l) k K=K (r.enc l[k]):=by
 unfold GN;have e:(List.map r.enc l)[k]? = some (r.enc l[k]):=pL.2 (List.getElem?_eq_getElem h);apply propext;constructor
 ·rintro ⟨y,h1,h2⟩;rw[e] at h1;cases h1;exact h2
 ·exact λhk=>⟨_,e,hk⟩
def jJ {r:Sy} {l:List r.den} {k:Nat} (h:k<l.length) (K:r.den->Prop):eK r (List.map r.enc l) k 0 K=K l[k]:=by
 unfold eK;have e:(List.map r.enc l)[k]? = some (r.enc l[k]):=pL.2 (List.getElem?_eq_getElem h);have e2:((r.enc l[k]).drop 0).take r.w=r.enc l[k]:=by rw[List.drop_zero,<-Sy.dA r l[k],List.take_length]
 apply propext;constructor
 ·rintro ⟨row,y,h1,_,h2,h3⟩;rw[e] at h1;cases h1;rw[e2] at h2;rw[Sy.c0 r _ _ h2];exact h3
 ·exact λhk=>⟨_,_,e,by rw[Sy.dA];omega,e2,hk⟩
def AJ1:∀ {s:Sh},rO s=true->∀ {x y:Sh.den s},Sh.enc s x=Sh.enc s y->x=y
 | [],_,_,_,_=>rfl
 | [a],h,x,y,he=>mR (by simpa [rO] using h) he
 | a::b::l,h,x,y,he=>by
  simp only[Sh.enc,T.bX.injEq] at he;exact O1 h he
def AM {s:Sh} (hs:rO s=true) (y:Sh.den s) (K:Sh.den s->Prop):aI s (some (Sh.enc s y)) K=K y:=by
 apply propext;constructor
 ·rintro ⟨z,h1,h2⟩;rw[AJ1 hs (Option.some.inj h1)];exact h2
 ·exact λhk=>⟨y,rfl,hk⟩
def eE {r:Sy} {a:Option (List (List T))} {l:List r.den} (h:a=some (List.map r.enc l)) (K:List r.den->Prop) (hk:K l):bP r a K:=⟨l,h,hk⟩
def GR {r:Sy} {l:List r.den} {k:Nat} (h:k<l.length):(List.map r.enc l).set k (r.enc l[k])=List.map r.enc l:=by
 have:(List.map r.enc l)[k]'(by simpa using h)=r.enc l[k]:=by simp
 rw[<-this,List.set_getElem_self]
def p9 {p:α->Bool} {l:List α} {k:Nat} (h:k<l.length):(l.drop k).find? p=if p l[k]=true then some l[k] else (l.drop (k+1)).find? p:=by
 rw[List.drop_eq_getElem_cons h,List.find?_cons];cases p l[k]<;>rfl
def aH {s:Sh} {a:Option T} {y:Sh.den s} {K:Sh.den s->Prop} (h:a=some (Sh.enc s y)) (hk:K y):aI s a K:=⟨y,h,hk⟩
def Sy.pure:Sy->Bool
 | .any=>false
 | .pr a b=>a.pure&&b.pure
 | .li r=>r.pure
 | _=>true
def iY:∀ {r:Sy} (x:r.den),r.pure=true->(r.enc x).map (T.canon 0)=r.enc x
 | .int _,_,_=>rfl
 | .bool,_,_=>rfl
 | .str,_,_=>rfl
 | .any,_,h=>by simp[Sy.pure] at h
 | .pr a b,x,h=>by
  simp only[Sy.pure,ac] at h;simp only[Sy.enc,List.map_append,iY x.1 h.1,iY x.2 h.2]
 | .li r,_,_=>rfl
def OR {r:Sy} (h:r.pure=true) (l:List r.den):kK (List.map r.enc l)=List.map r.enc l:=by
 unfold kK;rw[List.map_map];exact List.map_congr_left λx _=>iY x h
def ACB (a b:List (List T)):kK (a++b)=kK a++kK b:=by simp[kK]
def dW {r:Sy} (h:r.pure=true) (l:List r.den) (K:List r.den->Prop):bZ r (List.map r.enc l) K=K l:=by
 apply propext;constructor
 ·rintro ⟨l',h1,h2⟩;rw[OR h] at h1;rw[map_inj (Sy.c0 r) h1];exact h2
 ·exact λhk=>⟨l,OR h l,hk⟩
def A3E {r:Sy} (K:List r.den->Prop):bZ r [] K=K []:=by
 apply propext;constructor
 ·rintro ⟨l',h1,h2⟩;cases l' with
  | nil=>exact h2
  | cons a l=>simp[kK] at h1
 ·exact λhk=>⟨[],rfl,hk⟩
def AP {r:Sy} (h:r.pure=true) (l:List r.den) (row:List T) (y:r.den) (hy:row.map (T.canon 0)=r.enc y) (K:List r.den->Prop):bZ r (List.map r.enc l++[row]) K=K (l++[y]):=by
 have e:kK (List.map r.enc l++[row])=List.map r.enc (l++[y]):=by
  rw[ACB,OR h,List.map_append];simp[kK,hy]
 apply propext;constructor
 ·rintro ⟨l',h1,h2⟩;rw[e] at h1;rw[map_inj (Sy.c0 r) h1];exact h2
 ·exact λhk=>⟨_,e,hk⟩
variable {S:Type}{F:(S->Prop)->S->Prop}
def UW {s:S} (I:S->Prop) (μ:S->Nat) (h0:I s) (step:∀ (X:S->Prop) (s:S),I s->(∀ s',I s'->μ s'<μ s->X s')->F X s):a7 S F s:=by
 intro X hX;have key:∀ n s,μ s<n->I s->X s:=by
  intro n
  induction n with
  | zero=>intro s h;omega
  | succ n ih=>intro s hn hi;exact hX s (step X s hi λs' h1 h2=>ih s' (by omega) h1)
 exact key (μ s+1) s (by omega) h0
def bI {s:S} (n:Nat) (J:Nat->S->Prop) (h0:J 0 s) (step:∀ (X:S->Prop) (k:Nat) (s:S),k<=n->J k s->(∀ s',k<n->J (k+1) s'->X s')->F X s):a7 S F s:=by
 intro X hX;have key:∀ m k s,n-k<m->k<=n->J k s->X s:=by
  intro m
  induction m with
  | zero=>intro k s h;omega
  | succ m ih=>intro k s hm hk hj;exact hX s (step X k s hk hj λs' h1 h2=>ih (k+1) s' (by omega) (by omega) h2)
 exact key (n+1) 0 s (by omega) (by omega) h0
def I2 {l:List α} {k:Nat}:decide ((k:Int)<(l.length:Int))=decide (k<l.length):=by simp
end Go.Pv
