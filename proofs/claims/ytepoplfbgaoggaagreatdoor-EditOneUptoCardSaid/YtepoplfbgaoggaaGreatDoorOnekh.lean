/-
  The symbolic executor, part h: how one reasons about what it says.
-/
import Derived.Test.YtepoplfbgaoggaaGreatDoorOnekg
import Derived.Test.YtepoplfbgaoggaaGreatDoorOnewo
set_option linter.defProp false
set_option linter.unusedSimpArgs false
namespace Go.Pv
open Go Go.RowKit
def BdS:(r:Sy)->r.den->Prop
 | .pr a b,x=>BdS a x.1/\BdS b x.2
 | .li r,l=>List.length (α:=r.den) l<=2 ^ 47/\∀ y,List.Mem y (show List r.den from l)->BdS r y
 | .int _,_=>True
 | .bool,_=>True
 | .str,_=>True
 | .any,_=>True
def S4:∀ {r:Sy} {x:r.den},(∀ t∈r.enc x,Bd t)->BdS r x
 | .int _,_,_=>trivial
 | .bool,_,_=>trivial
 | .str,_,_=>trivial
 | .any,_,_=>trivial
 | .pr a b,x,h=>⟨S4 λt ht=>h t (by simp only[Sy.enc,List.mem_append];exact .inl ht),S4 λt ht=>h t (by simp only[Sy.enc,List.mem_append];exact .inr ht)⟩
 | .li r,l,h=>by
  have:=(BKO _ _).1 (h (.sl false (List.map r.enc l)) (by simp[Sy.enc]));exact ⟨by have h1:(List.map r.enc (show List r.den from l)).length<=2 ^ 47:=this.1;rw[ae] at h1;exact h1,λy hy=>S4 λt ht=>this.2 (r.enc y) (List.mem_map.2 ⟨y,hy,rfl⟩) t ht⟩
variable {ag:Bool}
def AUS {r:Sy} {x:r.den} (hw:(ag||r.w == 1)=true) (h:Bd (aH ag r x)):BdS r x:=by
 cases ag with
 | true=>exact S4 ((BLX _).1 h)
 | false =>
  have hl:(r.enc x).length=1:=by rw[Sy.dV];simpa using hw
  obtain ⟨u,hu⟩:=List.length_eq_one_iff.1 hl;refine S4 λt ht=>?_;simp only[aH,hu,hdT] at h;simp_all
def wT (s:Sh):Bool:=s.all λx=>x.1||x.2.w == 1
def nP {r:Sy} (hw:(ag||r.w == 1)=true) {x y:r.den} (h:aH ag r x=aH ag r y):x=y:=by
 cases ag with
 | true=>simp only[aH,T.agg.injEq] at h;exact Sy.eU r _ _ h
 | false =>
  have hx:(r.enc x).length=1:=by rw[Sy.dV];simpa using hw
  have hy:(r.enc y).length=1:=by rw[Sy.dV];simpa using hw
  obtain ⟨u,hu⟩:=List.length_eq_one_iff.1 hx;obtain ⟨v,hv⟩:=List.length_eq_one_iff.1 hy;simp only[aH,hu,hv,hdT] at h;exact Sy.eU r _ _ (by rw[hu,hv,h])
def TO:∀ {s:Sh},wT s=true->∀ {x y:Sh.den s},Sh.lD s x=Sh.lD s y->x=y
 | [],_,_,_,_=>rfl
 | [a],h,x,y,he=>by
  simp only[Sh.lD,List.cons.injEq] at he;exact nP (by simpa [wT] using h) he.1
 | a::b::l,h,x,y,he=>by
  have h':(a.1||a.2.w == 1)=true/\wT (b::l)=true:=by
   unfold wT at h ⊢;simp_all
  simp only[Sh.lD,List.cons.injEq] at he;exact Prod.ext (nP h'.1 he.1) (TO h'.2 he.2)
def bR:(s:Sh)->Sh.den s->Prop
 | [],_=>True
 | [a],x=>BdS a.2 x
 | a::b::l,x=>BdS a.2 x.1/\bR (b::l) x.2
def QH:∀ {s:Sh},wT s=true->∀ {x:Sh.den s},(∀ t∈Sh.lD s x,Bd t)->bR s x
 | [],_,_,_=>trivial
 | [a],h,x,hb=>AUS (by simpa [wT] using h) (hb _ (by simp[Sh.lD]))
 | a::b::l,h,x,hb=>by
  have h':(a.1||a.2.w == 1)=true/\wT (b::l)=true:=by
   unfold wT at h ⊢;simp_all
  exact ⟨AUS h'.1 (hb _ (by simp[Sh.lD])),QH h'.2 λt ht=>hb t (by simp only[Sh.lD,List.mem_cons];exact .inr ht)⟩
variable {α:Type}
open Classical in
noncomputable def gS (s:Sh) (sp:Sh.den s->Option α) (args:List T):Option α:=if h:∃ x,args=Sh.lD s x then sp (Classical.choose h) else none
def a8 {s:Sh} (hs:wT s=true) {sp:Sh.den s->Option α} {args:List T} (x:Sh.den s) (h:args=Sh.lD s x):gS s sp args=sp x:=by
 unfold gS;have he:∃ x,args=Sh.lD s x:=⟨x,h⟩
 rw[dif_pos he]
 congr 1
 exact TO hs ((Classical.choose_spec he).symm.trans h)
def CX {s:Sh} {sp:Sh.den s->Option α} {args:List T} {r:α} (h:gS s sp args=some r):∃ x,args=Sh.lD s x/\sp x=some r:=by
 unfold gS at h;split at h
 ·grind
 ·cases h
variable {P:Program}{E:Env}{Hs:FuncId->Hint}
def JK (hE:bB P E) (hm:P.follows .mixedOrders=true) (hn:cU P=true) (hh:iH E) (k:Nat) {f:FuncId} {s:Sh} {sp:Sh.den s->Option T} (hex:∃ fn c,P.funcs[f]? = some fn/\fn.body=some c) (hs:wT s=true)
  (h:∀ x r,sp x=some r->bR s x->fE cA P E Hs k f (Sh.lD s x) (λy=>y=r)):aT P f (gS s sp) :=
 MV hE hm hn hh k hex λargs r hg hb=>by
  obtain ⟨x,rfl,hx⟩:=CX hg;exact h x r hx (QH hs hb)
def AVJ (hE:bB P E) (hm:P.follows .mixedOrders=true) (hn:cU P=true) (hh:iH E) (k:Nat) {f:FuncId} {s:Sh} {sp:Sh.den s->Option T} (hex:∃ fn c,P.funcs[f]? = some fn/\fn.body=some c) (hs:wT s=true)
  (h:∀ x r,sp x=some r->bR s x->uU cA P E Hs k f (Sh.lD s x) (λy=>y=r)):j9 P f (gS s sp) :=
 ALP hE hm hn hh k hex λargs r hg hb=>by
  obtain ⟨x,rfl,hx⟩:=CX hg;exact h x r hx (QH hs hb)
def BDI (hE:bB P E) (hm:P.follows .mixedOrders=true) (hn:cU P=true) (hh:iH E) (k:Nat) {f:FuncId} {ci:Nat} {s:Sh} {sp:Sh.den s->Option T} (hex:∃ fn c,P.funcs[f]? = some fn/\fn.body=some c) (hs:wT s=true)
  (h:∀ x r,sp x=some r->bR s x->AGK cA P E Hs k ci f (Sh.lD s x) (λy=>y=r)):LA P f ci (gS s sp) :=
 A3H hE hm hn hh k hex λargs r hg hb=>by
  obtain ⟨x,rfl,hx⟩:=CX hg;exact h x r hx (QH hs hb)
def BLH:List (Nat×LH)->Nat->LH
 | [],_=>.none
 | (a,h)::l,r=>match r == a with
  | true=>h
  | false=>BLH l r
def bP (f:FuncId) (l:List (Nat×LH)) (n:FuncId->Hint):FuncId->Hint:=λg=>match g == f with
 | true=>⟨BLH l,λ_ _=>none,λ_=>none⟩
 | false=>n g
variable {A1:Type}
abbrev lW (P:Program) (f:FuncId) (g:List T->Option T) (sp:A1->Option T) (B:A1->Prop) (F:A1->(T->Prop)->Prop):Prop:=(∀ (x1:A1) r,sp x1=some r->B x1->F x1 (λy=>y=r))->aT P f g
variable {A2:Type}
abbrev nJ (P:Program) (f:FuncId) (g:List T->Option T) (sp:A1×A2->Option T) (B:A1×A2->Prop) (F:A1->A2->(T->Prop)->Prop):Prop:=(∀ (x1:A1) (x2:A2) r,sp (x1,x2)=some r->B (x1,x2)->F x1 x2 (λy=>y=r))->aT P f g
variable {A3:Type}
abbrev Of3 (P:Program) (f:FuncId) (g:List T->Option T) (sp:A1×A2×A3->Option T) (B:A1×A2×A3->Prop) (F:A1->A2->A3->(T->Prop)->Prop):Prop:=(∀ (x1:A1) (x2:A2) (x3:A3) r,sp (x1,x2,x3)=some r->B (x1,x2,x3)->F x1 x2 x3 (λy=>y=r))->aT P f g
abbrev Of4 (P:Program) (f:FuncId) (g:List T->Option T) {A4:Type} (sp:A1×A2×A3×A4->Option T) (B:A1×A2×A3×A4->Prop) (F:A1->A2->A3->A4->(T->Prop)->Prop):Prop:=(∀ (x1:A1) (x2:A2) (x3:A3) (x4:A4) r,sp (x1,x2,x3,x4)=some r->B (x1,x2,x3,x4)->F x1 x2 x3 x4 (λy=>y=r))->aT P f g
variable {a1:Bool×Sy}
def eN {sp:a1.2.den->Option T} {F:a1.2.den->(T->Prop)->Prop} {k:Nat} {f:FuncId} (hE:bB P E) (hm:P.follows .mixedOrders=true) (hn:cU P=true) (hh:iH E) (hex:∃ fn c,P.funcs[f]? = some fn/\fn.body=some c) (hs:wT [a1]=true) (hF:∀ x1 R,fE cA P E Hs k f (Sh.lD [a1] x1) R=F x1 R)
  (h:∀ x1 r,sp x1=some r->bR [a1] x1->F x1 (λy=>y=r)):aT P f (gS (s:=[a1]) sp) :=
 JK hE hm hn hh k hex hs λx r h1 h2=>by
  rw[hF];simp_all
variable {a2:Bool×Sy}
def eV {sp:a1.2.den×a2.2.den->Option T} {F:a1.2.den->a2.2.den->(T->Prop)->Prop} {k:Nat} {f:FuncId} (hE:bB P E) (hm:P.follows .mixedOrders=true) (hn:cU P=true) (hh:iH E) (hex:∃ fn c,P.funcs[f]? = some fn/\fn.body=some c) (hs:wT [a1,a2]=true) (hF:∀ x1 x2 R,fE cA P E Hs k f (Sh.lD [a1,a2] (x1,x2)) R=F x1 x2 R)
  (h:∀ x1 x2 r,sp (x1,x2)=some r->bR [a1,a2] (x1,x2)->F x1 x2 (λy=>y=r)):aT P f (gS (s:=[a1,a2]) sp) :=
 JK hE hm hn hh k hex hs λx r h1 h2=>by
  rw[hF];simp_all
variable {a3:Bool×Sy}
def MQ {sp:a1.2.den×a2.2.den×a3.2.den->Option T} {F:a1.2.den->a2.2.den->a3.2.den->(T->Prop)->Prop} {k:Nat} {f:FuncId} (hE:bB P E) (hm:P.follows .mixedOrders=true) (hn:cU P=true) (hh:iH E) (hex:∃ fn c,P.funcs[f]? = some fn/\fn.body=some c) (hs:wT [a1,a2,a3]=true) (hF:∀ x1 x2 x3 R,fE cA P E Hs k f (Sh.lD [a1,a2,a3] (x1,x2,x3)) R=F x1 x2 x3 R)
  (h:∀ x1 x2 x3 r,sp (x1,x2,x3)=some r->bR [a1,a2,a3] (x1,x2,x3)->F x1 x2 x3 (λy=>y=r)):aT P f (gS (s:=[a1,a2,a3]) sp) :=
 JK hE hm hn hh k hex hs λx r h1 h2=>by
  rw[hF];simp_all
def BI5 {a4:Bool×Sy} {sp:a1.2.den×a2.2.den×a3.2.den×a4.2.den->Option T} {F:a1.2.den->a2.2.den->a3.2.den->a4.2.den->(T->Prop)->Prop} {k:Nat} {f:FuncId} (hE:bB P E) (hm:P.follows .mixedOrders=true) (hn:cU P=true) (hh:iH E) (hex:∃ fn c,P.funcs[f]? = some fn/\fn.body=some c) (hs:wT [a1,a2,a3,a4]=true) (hF:∀ x1 x2 x3 x4 R,fE cA P E Hs k f (Sh.lD [a1,a2,a3,a4] (x1,x2,x3,x4)) R=F x1 x2 x3 x4 R)
  (h:∀ x1 x2 x3 x4 r,sp (x1,x2,x3,x4)=some r->bR [a1,a2,a3,a4] (x1,x2,x3,x4)->F x1 x2 x3 x4 (λy=>y=r)):aT P f (gS (s:=[a1,a2,a3,a4]) sp) :=
 JK hE hm hn hh k hex hs λx r h1 h2=>by
  rw[hF];simp_all
variable {X:Type}
open Classical in
noncomputable def gA (A:X->List T) (sp:X->Option α) (args:List T):Option α:=if h:∃ x,args=A x then sp (Classical.choose h) else none
variable {A:X->List T}{sp:X->Option α}
def gF (hA:∀ x y,A x=A y->x=y) (x:X):gA A sp (A x)=sp x:=by
 unfold gA;have he:∃ y,A x=A y:=⟨x,rfl⟩
 grind
def ADA {args:List T} {r:α} (h:gA A sp args=some r):∃ x,args=A x/\sp x=some r:=by
 unfold gA at h;split at h
 ·grind
 ·cases h
def dA (hE:bB P E) (hm:P.follows .mixedOrders=true) (hn:cU P=true) (hh:iH E) (k:Nat) {f:FuncId} {sp:X->Option T} (hex:∃ fn c,P.funcs[f]? = some fn/\fn.body=some c)
  (h:∀ x r,sp x=some r->(∀ t∈A x,Bd t)->fE cA P E Hs k f (A x) (λy=>y=r)):aT P f (gA A sp) :=
 MV hE hm hn hh k hex λargs r hg hb=>by
  obtain ⟨x,rfl,hx⟩:=ADA hg;exact h x r hx hb
def HE (hE:bB P E) (hm:P.follows .mixedOrders=true) (hn:cU P=true) (hh:iH E) (k:Nat) {f:FuncId} {sp:X->Option (List (iII×Int))} (hex:∃ fn c,P.funcs[f]? = some fn/\fn.body=some c)
  (h:∀ x r,sp x=some r->(∀ t∈A x,Bd t)->uU cA P E Hs k f (A x) (λy=>y = .mp (bQ r))):j9 P f (uO (gA A sp)) :=
 ALP hE hm hn hh k hex λargs r hg hb=>by
  unfold uO at hg;simp only[aa] at hg;obtain ⟨es,hg,rfl⟩:=hg;obtain ⟨x,rfl,hx⟩:=ADA hg;exact h x es hx hb
def fL (A B:Prop):aE true A B=A:=propext ⟨λh=>h,λh=>h⟩
def hU (A B:Prop):aE false A B=B:=propext ⟨λh=>h,λh=>h⟩
def IB (b:Bool) (A B:Prop):aE b A B=if b=true then A else B:=by cases b<;>rfl
def BDZ (b:Bool) (K:Prop):bO b K=(b=true/\K):=rfl
def cI (x:bL) (K:Prop):eZ x x K=K:=by simp[eZ]
def C0 (S:Type) (A:(S->Prop)->Prop) (K:S->Prop):tW S A K=A K:=rfl
def AC3 {r:Sy} {l:List r.den} {i:Nat} {y:r.den}:(List.map r.enc l)[i]? = some (r.enc y)↔l[i]? = some y:=by
 rw[List.getElem?_map];cases h:l[i]? with
 | none=>simp
 | some z=>simp only[Option.map_some,Option.some.injEq];exact ⟨Sy.eU r _ _,λe=>by rw[e]⟩
def A3O (r:Sy) (l:List r.den) (i:Int) (K:r.den->Prop):aU r (List.map r.enc l) i K = ∃ y,0<=i/\l[i.toNat]? = some y/\K y:=by
 simp only[aU,AC3]
def bA {r:Sy} {l:List r.den} {k:Nat} (h:k<l.length) (K:r.den->Prop):aU r (List.map r.enc l) (k:Int) K=K l[k]:=by
 rw[A3O];simp_all
def n9 {r:Sy} {l:List r.den} {k:Nat} (h:k<l.length) (K:List T->Prop):D6 (List.map r.enc l) k K=K (r.enc l[k]):=by
 unfold D6;simp_all
def gI {r:Sy} {l:List r.den} {k:Nat} (h:k<l.length) (K:r.den->Prop):kU r (List.map r.enc l) k 0 K=K l[k]:=by
 have e:(List.map r.enc l)[k]? = some (r.enc l[k]):=AC3.2 (List.getElem?_eq_getElem h);have e2:((r.enc l[k]).drop 0).take r.w=r.enc l[k]:=by rw[List.drop_zero,<-Sy.dV r l[k],List.take_length]
 apply propext;constructor
 ·rintro ⟨row,y,h1,_,h2,h3⟩;rw[e] at h1;cases h1;rw[e2] at h2;rw[Sy.eU r _ _ h2];exact h3
 ·exact λhk=>⟨_,_,e,by rw[Sy.dV];omega,e2,hk⟩
def APX:∀ {s:Sh},wT s=true->∀ {x y:Sh.den s},Sh.enc s x=Sh.enc s y->x=y
 | [],_,_,_,_=>rfl
 | [a],h,x,y,he=>nP (by simpa [wT] using h) he
 | a::b::l,h,x,y,he=>by
  simp only[Sh.enc,T.cB.injEq] at he;exact TO h he
def oL {s:Sh} (hs:wT s=true) (y:Sh.den s) (K:Sh.den s->Prop):aJ s (some (Sh.enc s y)) K=K y:=by
 apply propext;constructor
 ·rintro ⟨z,h1,h2⟩;rw[APX hs (Option.some.inj h1)];exact h2
 ·exact λhk=>⟨y,rfl,hk⟩
def eT {r:Sy} {a:Option (List (List T))} {l:List r.den} (h:a=some (List.map r.enc l)) (K:List r.den->Prop) (hk:K l):fK r a K:=⟨l,h,hk⟩
def JR {r:Sy} {l:List r.den} {k:Nat} (h:k<l.length):(List.map r.enc l).set k (r.enc l[k])=List.map r.enc l:=by
 have:(List.map r.enc l)[k]'(by simpa using h)=r.enc l[k]:=by simp
 rw[<-this,List.set_getElem_self]
variable {l:List α}
def lE {p:α->Bool} {k:Nat} (h:k<l.length):(l.drop k).find? p=if p l[k]=true then some l[k] else (l.drop (k+1)).find? p:=by
 rw[List.drop_eq_getElem_cons h,List.find?_cons]
 grind
def aM {s:Sh} {a:Option T} {y:Sh.den s} {K:Sh.den s->Prop} (h:a=some (Sh.enc s y)) (hk:K y):aJ s a K:=⟨y,h,hk⟩
def Sy.pure:Sy->Bool
 | .any=>false
 | .pr a b=>a.pure&&b.pure
 | .li r=>r.pure
 | _=>true
def E6:∀ {r:Sy} (x:r.den),r.pure=true->(r.enc x).map (T.canon 0)=r.enc x
 | .int _,_,_=>rfl
 | .bool,_,_=>rfl
 | .str,_,_=>rfl
 | .any,_,h=>by simp[Sy.pure] at h
 | .pr a b,x,h=>by
  simp only[Sy.pure,ac] at h;simp only[Sy.enc,List.map_append,E6 x.1 h.1,E6 x.2 h.2]
 | .li r,_,_=>rfl
def TE {r:Sy} (h:r.pure=true) (l:List r.den):lZ (List.map r.enc l)=List.map r.enc l:=by
 unfold lZ;rw[List.map_map];exact List.map_congr_left λx _=>E6 x h
def AIH (a b:List (List T)):lZ (a++b)=lZ a++lZ b:=by simp[lZ]
def dJ {r:Sy} (h:r.pure=true) (l:List r.den) (K:List r.den->Prop):cD r (List.map r.enc l) K=K l:=by
 apply propext;constructor
 ·rintro ⟨l',h1,h2⟩;rw[TE h] at h1;rw[map_inj (Sy.eU r) h1];exact h2
 ·exact λhk=>⟨l,TE h l,hk⟩
def A76 {r:Sy} (K:List r.den->Prop):cD r [] K=K []:=by
 apply propext;constructor
 ·rintro ⟨l',h1,h2⟩;cases l' with
  | nil=>exact h2
  | cons a l=>simp[lZ] at h1
 ·exact λhk=>⟨[],rfl,hk⟩
def vC {r:Sy} (h:r.pure=true) (l:List r.den) (row:List T) (y:r.den) (hy:row.map (T.canon 0)=r.enc y) (K:List r.den->Prop):cD r (List.map r.enc l++[row]) K=K (l++[y]):=by
 have e:lZ (List.map r.enc l++[row])=List.map r.enc (l++[y]):=by
  rw[AIH,TE h,List.map_append];simp[lZ,hy]
 apply propext;constructor
 ·rintro ⟨l',h1,h2⟩;rw[e] at h1;rw[map_inj (Sy.eU r) h1];exact h2
 ·exact λhk=>⟨_,e,hk⟩
def bJ {S:Type} {F:(S->Prop)->S->Prop} {s:S} (n:Nat) (J:Nat->S->Prop) (h0:J 0 s) (step:∀ (X:S->Prop) (k:Nat) (s:S),k<=n->J k s->(∀ s',k<n->J (k+1) s'->X s')->F X s):a7 S F s:=by
 intro X hX;have key:∀ m k s,n-k<m->k<=n->J k s->X s:=by
  intro m
  induction m with
  | zero=>intro k s h;omega
  | succ m ih=>intro k s hm hk hj;exact hX s (step X k s hk hj λs' h1 h2=>ih (k+1) s' (by omega) (by omega) h2)
 exact key (n+1) 0 s (by omega) (by omega) h0
def yG {k:Nat}:decide ((k:Int)<(l.length:Int))=decide (k<l.length):=by simp
def c0:FuncId->Hint:=λ_=>bH
noncomputable def oU:Env:=Env.of []
def bM (P:Program):bB P oU:=.nil _
end Go.Pv
