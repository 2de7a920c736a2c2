/-
  The symbolic executor, part h: how one reasons about what it says.
-/
import Derived.Test.YtipdohmdckdoeaaGreatDoorVekg
import Derived.Test.YtipdohmdckdoeaaGreatDoorVewo
set_option linter.defProp false
set_option linter.unusedSimpArgs false
namespace Go.Pv
open Go Go.RowKit
def BdS:(r:Sy)->r.den->Prop
 | .pr a b,x=>BdS a x.1/\BdS b x.2
 | .li r,l=>List.length (α:=r.den) l<=2 ^ 47/\∀ y,List.Mem y (show List r.den from l)->BdS r y
 | .int _,_=>True
 | .bool,_=>True
 | .str,_=>True
 | .any,_=>True
def MB:∀ {r:Sy} {x:r.den},(∀ t∈r.enc x,Bd t)->BdS r x
 | .int _,_,_=>trivial
 | .bool,_,_=>trivial
 | .str,_,_=>trivial
 | .any,_,_=>trivial
 | .pr a b,x,h=>⟨MB λt ht=>h t (by simp only[Sy.enc,List.mem_append];exact .inl ht),MB λt ht=>h t (by simp only[Sy.enc,List.mem_append];exact .inr ht)⟩
 | .li r,l,h=>by
  have:=(A8X _ _).1 (h (.sl false (List.map r.enc l)) (by simp[Sy.enc]));exact ⟨by have h1:(List.map r.enc (show List r.den from l)).length<=2 ^ 47:=this.1;rw[ae] at h1;exact h1,λy hy=>MB λt ht=>this.2 (r.enc y) (List.mem_map.2 ⟨y,hy,rfl⟩) t ht⟩
variable {ag:Bool}
def AJU {r:Sy} {x:r.den} (hw:(ag||r.w == 1)=true) (h:Bd (aG ag r x)):BdS r x:=by
 cases ag with
 | true=>exact MB ((AR6 _).1 h)
 | false =>
  have hl:(r.enc x).length=1:=by rw[Sy.cW];simpa using hw
  obtain ⟨u,hu⟩:=List.length_eq_one_iff.1 hl;refine MB λt ht=>?_;rw[hu] at ht;simp only[aG,hu,hdT] at h;rw[List.mem_singleton.1 ht];exact h
def sM (s:Sh):Bool:=s.all λx=>x.1||x.2.w == 1
def mN {r:Sy} (hw:(ag||r.w == 1)=true) {x y:r.den} (h:aG ag r x=aG ag r y):x=y:=by
 cases ag with
 | true=>simp only[aG,T.agg.injEq] at h;exact Sy.dY r _ _ h
 | false =>
  have hx:(r.enc x).length=1:=by rw[Sy.cW];simpa using hw
  have hy:(r.enc y).length=1:=by rw[Sy.cW];simpa using hw
  obtain ⟨u,hu⟩:=List.length_eq_one_iff.1 hx;obtain ⟨v,hv⟩:=List.length_eq_one_iff.1 hy;simp only[aG,hu,hv,hdT] at h;exact Sy.dY r _ _ (by rw[hu,hv,h])
def MT:∀ {s:Sh},sM s=true->∀ {x y:Sh.den s},Sh.lT s x=Sh.lT s y->x=y
 | [],_,_,_,_=>rfl
 | [a],h,x,y,he=>by
  simp only[Sh.lT,List.cons.injEq] at he;exact mN (by simpa [sM] using h) he.1
 | a::b::l,h,x,y,he=>by
  have h':(a.1||a.2.w == 1)=true/\sM (b::l)=true:=by
   unfold sM at h ⊢;rw[List.all_cons,ac] at h;exact h
  simp only[Sh.lT,List.cons.injEq] at he;exact Prod.ext (mN h'.1 he.1) (MT h'.2 he.2)
def cC:(s:Sh)->Sh.den s->Prop
 | [],_=>True
 | [a],x=>BdS a.2 x
 | a::b::l,x=>BdS a.2 x.1/\cC (b::l) x.2
def JX:∀ {s:Sh},sM s=true->∀ {x:Sh.den s},(∀ t∈Sh.lT s x,Bd t)->cC s x
 | [],_,_,_=>trivial
 | [a],h,x,hb=>AJU (by simpa [sM] using h) (hb _ (by simp[Sh.lT]))
 | a::b::l,h,x,hb=>by
  have h':(a.1||a.2.w == 1)=true/\sM (b::l)=true:=by
   unfold sM at h ⊢;rw[List.all_cons,ac] at h;exact h
  exact ⟨AJU h'.1 (hb _ (by simp[Sh.lT])),JX h'.2 λt ht=>hb t (by simp only[Sh.lT,List.mem_cons];exact .inr ht)⟩
variable {α:Type}
open Classical in
noncomputable def gS (s:Sh) (sp:Sh.den s->Option α) (args:List T):Option α:=if h:∃ x,args=Sh.lT s x then sp (Classical.choose h) else none
def bI {s:Sh} (hs:sM s=true) {sp:Sh.den s->Option α} {args:List T} (x:Sh.den s) (h:args=Sh.lT s x):gS s sp args=sp x:=by
 unfold gS;have he:∃ x,args=Sh.lT s x:=⟨x,h⟩
 rw[dif_pos he]
 congr 1
 exact MT hs ((Classical.choose_spec he).symm.trans h)
def yX {s:Sh} {sp:Sh.den s->Option α} {args:List T} {r:α} (h:gS s sp args=some r):∃ x,args=Sh.lT s x/\sp x=some r:=by
 unfold gS at h;split at h
 ·rename_i he;exact ⟨_,Classical.choose_spec he,h⟩
 ·cases h
variable {P:Program}{E:Env}{Hs:FuncId->Hint}
def ES (hE:aV P E) (hm:P.follows .mixedOrders=true) (hn:cF P=true) (hh:fQ E) (k:Nat) {f:FuncId} {s:Sh} {sp:Sh.den s->Option T} (hex:∃ fn c,P.funcs[f]? = some fn/\fn.body=some c) (hs:sM s=true)
  (h:∀ x r,sp x=some r->cC s x->eG bY P E Hs k f (Sh.lT s x) (λy=>y=r)):aP P f (gS s sp) :=
 HD hE hm hn hh k hex λargs r hg hb=>by
  obtain ⟨x,rfl,hx⟩:=yX hg;exact h x r hx (JX hs hb)
def A7L (hE:aV P E) (hm:P.follows .mixedOrders=true) (hn:cF P=true) (hh:fQ E) (k:Nat) {f:FuncId} {s:Sh} {sp:Sh.den s->Option T} (hex:∃ fn c,P.funcs[f]? = some fn/\fn.body=some c) (hs:sM s=true)
  (h:∀ x r,sp x=some r->cC s x->vW bY P E Hs k f (Sh.lT s x) (λy=>y=r)):kK P f (gS s sp) :=
 AB4 hE hm hn hh k hex λargs r hg hb=>by
  obtain ⟨x,rfl,hx⟩:=yX hg;exact h x r hx (JX hs hb)
def A1H (hE:aV P E) (hm:P.follows .mixedOrders=true) (hn:cF P=true) (hh:fQ E) (k:Nat) {f:FuncId} {ci:Nat} {s:Sh} {sp:Sh.den s->Option T} (hex:∃ fn c,P.funcs[f]? = some fn/\fn.body=some c) (hs:sM s=true)
  (h:∀ x r,sp x=some r->cC s x->XH bY P E Hs k ci f (Sh.lT s x) (λy=>y=r)):LX P f ci (gS s sp) :=
 ARE hE hm hn hh k hex λargs r hg hb=>by
  obtain ⟨x,rfl,hx⟩:=yX hg;exact h x r hx (JX hs hb)
def A0A:List (Nat×LH)->Nat->LH
 | [],_=>.none
 | (a,h)::l,r=>match r == a with
  | true=>h
  | false=>A0A l r
def b6 (f:FuncId) (l:List (Nat×LH)) (n:FuncId->Hint):FuncId->Hint:=λg=>match g == f with
 | true=>⟨A0A l,λ_ _=>none,λ_=>none⟩
 | false=>n g
variable {A1:Type}
abbrev wP (P:Program) (f:FuncId) (g:List T->Option T) (sp:A1->Option T) (B:A1->Prop) (F:A1->(T->Prop)->Prop):Prop:=(∀ (x1:A1) r,sp x1=some r->B x1->F x1 (λy=>y=r))->aP P f g
variable {A2:Type}
abbrev rJ (P:Program) (f:FuncId) (g:List T->Option T) (sp:A1×A2->Option T) (B:A1×A2->Prop) (F:A1->A2->(T->Prop)->Prop):Prop:=(∀ (x1:A1) (x2:A2) r,sp (x1,x2)=some r->B (x1,x2)->F x1 x2 (λy=>y=r))->aP P f g
variable {A3:Type}
abbrev Of3 (P:Program) (f:FuncId) (g:List T->Option T) (sp:A1×A2×A3->Option T) (B:A1×A2×A3->Prop) (F:A1->A2->A3->(T->Prop)->Prop):Prop:=(∀ (x1:A1) (x2:A2) (x3:A3) r,sp (x1,x2,x3)=some r->B (x1,x2,x3)->F x1 x2 x3 (λy=>y=r))->aP P f g
abbrev Of4 (P:Program) (f:FuncId) (g:List T->Option T) {A4:Type} (sp:A1×A2×A3×A4->Option T) (B:A1×A2×A3×A4->Prop) (F:A1->A2->A3->A4->(T->Prop)->Prop):Prop:=(∀ (x1:A1) (x2:A2) (x3:A3) (x4:A4) r,sp (x1,x2,x3,x4)=some r->B (x1,x2,x3,x4)->F x1 x2 x3 x4 (λy=>y=r))->aP P f g
variable {a1:Bool×Sy}
def jZ {sp:a1.2.den->Option T} {F:a1.2.den->(T->Prop)->Prop} {k:Nat} {f:FuncId} (hE:aV P E) (hm:P.follows .mixedOrders=true) (hn:cF P=true) (hh:fQ E) (hex:∃ fn c,P.funcs[f]? = some fn/\fn.body=some c) (hs:sM [a1]=true) (hF:∀ x1 R,eG bY P E Hs k f (Sh.lT [a1] x1) R=F x1 R)
  (h:∀ x1 r,sp x1=some r->cC [a1] x1->F x1 (λy=>y=r)):aP P f (gS (s:=[a1]) sp) :=
 ES hE hm hn hh k hex hs λx r h1 h2=>by
  rw[hF];exact h x r h1 h2
variable {a2:Bool×Sy}
def gZ {sp:a1.2.den×a2.2.den->Option T} {F:a1.2.den->a2.2.den->(T->Prop)->Prop} {k:Nat} {f:FuncId} (hE:aV P E) (hm:P.follows .mixedOrders=true) (hn:cF P=true) (hh:fQ E) (hex:∃ fn c,P.funcs[f]? = some fn/\fn.body=some c) (hs:sM [a1,a2]=true) (hF:∀ x1 x2 R,eG bY P E Hs k f (Sh.lT [a1,a2] (x1,x2)) R=F x1 x2 R)
  (h:∀ x1 x2 r,sp (x1,x2)=some r->cC [a1,a2] (x1,x2)->F x1 x2 (λy=>y=r)):aP P f (gS (s:=[a1,a2]) sp) :=
 ES hE hm hn hh k hex hs λx r h1 h2=>by
  obtain ⟨x1,x2⟩:=x;rw[hF];exact h x1 x2 r h1 h2
variable {a3:Bool×Sy}
def QO {sp:a1.2.den×a2.2.den×a3.2.den->Option T} {F:a1.2.den->a2.2.den->a3.2.den->(T->Prop)->Prop} {k:Nat} {f:FuncId} (hE:aV P E) (hm:P.follows .mixedOrders=true) (hn:cF P=true) (hh:fQ E) (hex:∃ fn c,P.funcs[f]? = some fn/\fn.body=some c) (hs:sM [a1,a2,a3]=true) (hF:∀ x1 x2 x3 R,eG bY P E Hs k f (Sh.lT [a1,a2,a3] (x1,x2,x3)) R=F x1 x2 x3 R)
  (h:∀ x1 x2 x3 r,sp (x1,x2,x3)=some r->cC [a1,a2,a3] (x1,x2,x3)->F x1 x2 x3 (λy=>y=r)):aP P f (gS (s:=[a1,a2,a3]) sp) :=
 ES hE hm hn hh k hex hs λx r h1 h2=>by
  obtain ⟨x1,x2,x3⟩:=x;rw[hF];exact h x1 x2 x3 r h1 h2
def BIF {a4:Bool×Sy} {sp:a1.2.den×a2.2.den×a3.2.den×a4.2.den->Option T} {F:a1.2.den->a2.2.den->a3.2.den->a4.2.den->(T->Prop)->Prop} {k:Nat} {f:FuncId} (hE:aV P E) (hm:P.follows .mixedOrders=true) (hn:cF P=true) (hh:fQ E) (hex:∃ fn c,P.funcs[f]? = some fn/\fn.body=some c) (hs:sM [a1,a2,a3,a4]=true) (hF:∀ x1 x2 x3 x4 R,eG bY P E Hs k f (Sh.lT [a1,a2,a3,a4] (x1,x2,x3,x4)) R=F x1 x2 x3 x4 R)
  (h:∀ x1 x2 x3 x4 r,sp (x1,x2,x3,x4)=some r->cC [a1,a2,a3,a4] (x1,x2,x3,x4)->F x1 x2 x3 x4 (λy=>y=r)):aP P f (gS (s:=[a1,a2,a3,a4]) sp) :=
 ES hE hm hn hh k hex hs λx r h1 h2=>by
  obtain ⟨x1,x2,x3,x4⟩:=x;rw[hF];exact h x1 x2 x3 x4 r h1 h2
variable {X:Type}
open Classical in
noncomputable def gA (A:X->List T) (sp:X->Option α) (args:List T):Option α:=if h:∃ x,args=A x then sp (Classical.choose h) else none
variable {A:X->List T}{sp:X->Option α}
def fN (hA:∀ x y,A x=A y->x=y) (x:X):gA A sp (A x)=sp x:=by
 unfold gA;have he:∃ y,A x=A y:=⟨x,rfl⟩
 rw[dif_pos he]
 congr 1
 exact hA _ _ (Classical.choose_spec he).symm
def U4 {args:List T} {r:α} (h:gA A sp args=some r):∃ x,args=A x/\sp x=some r:=by
 unfold gA at h;split at h
 ·rename_i he;exact ⟨_,Classical.choose_spec he,h⟩
 ·cases h
def cQ (hE:aV P E) (hm:P.follows .mixedOrders=true) (hn:cF P=true) (hh:fQ E) (k:Nat) {f:FuncId} {sp:X->Option T} (hex:∃ fn c,P.funcs[f]? = some fn/\fn.body=some c)
  (h:∀ x r,sp x=some r->(∀ t∈A x,Bd t)->eG bY P E Hs k f (A x) (λy=>y=r)):aP P f (gA A sp) :=
 HD hE hm hn hh k hex λargs r hg hb=>by
  obtain ⟨x,rfl,hx⟩:=U4 hg;exact h x r hx hb
def C7 (hE:aV P E) (hm:P.follows .mixedOrders=true) (hn:cF P=true) (hh:fQ E) (k:Nat) {f:FuncId} {sp:X->Option (List (iII×Int))} (hex:∃ fn c,P.funcs[f]? = some fn/\fn.body=some c)
  (h:∀ x r,sp x=some r->(∀ t∈A x,Bd t)->vW bY P E Hs k f (A x) (λy=>y = .mp (bO r))):kK P f (sE (gA A sp)) :=
 AB4 hE hm hn hh k hex λargs r hg hb=>by
  unfold sE at hg;simp only[aa] at hg;obtain ⟨es,hg,rfl⟩:=hg;obtain ⟨x,rfl,hx⟩:=U4 hg;exact h x es hx hb
def jY (A B:Prop):aC true A B=A:=propext ⟨λh=>h,λh=>h⟩
def o6 (A B:Prop):aC false A B=B:=propext ⟨λh=>h,λh=>h⟩
def ABN (b:Bool) (A B:Prop):aC b A B=if b=true then A else B:=by cases b<;>rfl
def A1Y (b:Bool) (K:Prop):bR b K=(b=true/\K):=rfl
def cS (x:bH) (K:Prop):fS x x K=K:=by simp[fS]
def zG (S:Type) (A:(S->Prop)->Prop) (K:S->Prop):rU S A K=A K:=rfl
def yS {r:Sy} {l:List r.den} {i:Nat} {y:r.den}:(List.map r.enc l)[i]? = some (r.enc y)↔l[i]? = some y:=by
 rw[List.getElem?_map];cases h:l[i]? with
 | none=>simp
 | some z=>simp only[Option.map_some,Option.some.injEq];exact ⟨Sy.dY r _ _,λe=>by rw[e]⟩
def ARO (r:Sy) (l:List r.den) (i:Int) (K:r.den->Prop):aR r (List.map r.enc l) i K = ∃ y,0<=i/\l[i.toNat]? = some y/\K y:=by
 simp only[aR,yS]
def bD {r:Sy} {l:List r.den} {k:Nat} (h:k<l.length) (K:r.den->Prop):aR r (List.map r.enc l) (k:Int) K=K l[k]:=by
 rw[ARO];apply propext;constructor
 ·rintro ⟨y,_,h1,h2⟩;rw[Int.toNat_natCast,List.getElem?_eq_getElem h] at h1;cases h1;exact h2
 ·exact λhk=>⟨l[k],by omega,by rw[Int.toNat_natCast,List.getElem?_eq_getElem h],hk⟩
def pP {r:Sy} {l:List r.den} {k:Nat} (h:k<l.length) (K:List T->Prop):EX (List.map r.enc l) k K=K (r.enc l[k]):=by
 unfold EX;have e:(List.map r.enc l)[k]? = some (r.enc l[k]):=yS.2 (List.getElem?_eq_getElem h);apply propext;constructor
 ·rintro ⟨y,h1,h2⟩;rw[e] at h1;cases h1;exact h2
 ·exact λhk=>⟨_,e,hk⟩
def iK {r:Sy} {l:List r.den} {k:Nat} (h:k<l.length) (K:r.den->Prop):iJ r (List.map r.enc l) k 0 K=K l[k]:=by
 unfold iJ;have e:(List.map r.enc l)[k]? = some (r.enc l[k]):=yS.2 (List.getElem?_eq_getElem h);have e2:((r.enc l[k]).drop 0).take r.w=r.enc l[k]:=by rw[List.drop_zero,<-Sy.cW r l[k],List.take_length]
 apply propext;constructor
 ·rintro ⟨row,y,h1,_,h2,h3⟩;rw[e] at h1;cases h1;rw[e2] at h2;rw[Sy.dY r _ _ h2];exact h3
 ·exact λhk=>⟨_,_,e,by rw[Sy.cW];omega,e2,hk⟩
def AF1:∀ {s:Sh},sM s=true->∀ {x y:Sh.den s},Sh.enc s x=Sh.enc s y->x=y
 | [],_,_,_,_=>rfl
 | [a],h,x,y,he=>mN (by simpa [sM] using h) he
 | a::b::l,h,x,y,he=>by
  simp only[Sh.enc,T.b7.injEq] at he;exact MT h he
def yP {s:Sh} (hs:sM s=true) (y:Sh.den s) (K:Sh.den s->Prop):aJ s (some (Sh.enc s y)) K=K y:=by
 apply propext;constructor
 ·rintro ⟨z,h1,h2⟩;rw[AF1 hs (Option.some.inj h1)];exact h2
 ·exact λhk=>⟨y,rfl,hk⟩
def dW {r:Sy} {a:Option (List (List T))} {l:List r.den} (h:a=some (List.map r.enc l)) (K:List r.den->Prop) (hk:K l):eR r a K:=⟨l,h,hk⟩
def EZ {r:Sy} {l:List r.den} {k:Nat} (h:k<l.length):(List.map r.enc l).set k (r.enc l[k])=List.map r.enc l:=by
 have:(List.map r.enc l)[k]'(by simpa using h)=r.enc l[k]:=by simp
 rw[<-this,List.set_getElem_self]
def nQ {p:α->Bool} {l:List α} {k:Nat} (h:k<l.length):(l.drop k).find? p=if p l[k]=true then some l[k] else (l.drop (k+1)).find? p:=by
 rw[List.drop_eq_getElem_cons h,List.find?_cons];cases p l[k]<;>rfl
def aF {s:Sh} {a:Option T} {y:Sh.den s} {K:Sh.den s->Prop} (h:a=some (Sh.enc s y)) (hk:K y):aJ s a K:=⟨y,h,hk⟩
def Sy.pure:Sy->Bool
 | .any=>false
 | .pr a b=>a.pure&&b.pure
 | .li r=>r.pure
 | _=>true
def BQ:∀ {r:Sy} (x:r.den),r.pure=true->(r.enc x).map (T.canon 0)=r.enc x
 | .int _,_,_=>rfl
 | .bool,_,_=>rfl
 | .str,_,_=>rfl
 | .any,_,h=>by simp[Sy.pure] at h
 | .pr a b,x,h=>by
  simp only[Sy.pure,ac] at h;simp only[Sy.enc,List.map_append,BQ x.1 h.1,BQ x.2 h.2]
 | .li r,_,_=>rfl
def MG {r:Sy} (h:r.pure=true) (l:List r.den):j6 (List.map r.enc l)=List.map r.enc l:=by
 unfold j6;rw[List.map_map];exact List.map_congr_left λx _=>BQ x h
def ZD (a b:List (List T)):j6 (a++b)=j6 a++j6 b:=by simp[j6]
def dH {r:Sy} (h:r.pure=true) (l:List r.den) (K:List r.den->Prop):dM r (List.map r.enc l) K=K l:=by
 apply propext;constructor
 ·rintro ⟨l',h1,h2⟩;rw[MG h] at h1;rw[map_inj (Sy.dY r) h1];exact h2
 ·exact λhk=>⟨l,MG h l,hk⟩
def AW7 {r:Sy} (K:List r.den->Prop):dM r [] K=K []:=by
 apply propext;constructor
 ·rintro ⟨l',h1,h2⟩;cases l' with
  | nil=>exact h2
  | cons a l=>simp[j6] at h1
 ·exact λhk=>⟨[],rfl,hk⟩
def F4 {r:Sy} (h:r.pure=true) (l:List r.den) (row:List T) (y:r.den) (hy:row.map (T.canon 0)=r.enc y) (K:List r.den->Prop):dM r (List.map r.enc l++[row]) K=K (l++[y]):=by
 have e:j6 (List.map r.enc l++[row])=List.map r.enc (l++[y]):=by
  rw[ZD,MG h,List.map_append];simp[j6,hy]
 apply propext;constructor
 ·rintro ⟨l',h1,h2⟩;rw[e] at h1;rw[map_inj (Sy.dY r) h1];exact h2
 ·exact λhk=>⟨_,e,hk⟩
variable {S:Type}{F:(S->Prop)->S->Prop}
def AP5 {s:S} (I:S->Prop) (μ:S->Nat) (h0:I s) (step:∀ (X:S->Prop) (s:S),I s->(∀ s',I s'->μ s'<μ s->X s')->F X s):bB S F s:=by
 intro X hX;have key:∀ n s,μ s<n->I s->X s:=by
  intro n
  induction n with
  | zero=>intro s h;omega
  | succ n ih=>intro s hn hi;exact hX s (step X s hi λs' h1 h2=>ih s' (by omega) h1)
 exact key (μ s+1) s (by omega) h0
def bK {s:S} (n:Nat) (J:Nat->S->Prop) (h0:J 0 s) (step:∀ (X:S->Prop) (k:Nat) (s:S),k<=n->J k s->(∀ s',k<n->J (k+1) s'->X s')->F X s):bB S F s:=by
 intro X hX;have key:∀ m k s,n-k<m->k<=n->J k s->X s:=by
  intro m
  induction m with
  | zero=>intro k s h;omega
  | succ m ih=>intro k s hm hk hj;exact hX s (step X k s hk hj λs' h1 h2=>ih (k+1) s' (by omega) (by omega) h2)
 exact key (n+1) 0 s (by omega) (by omega) h0
def CD {l:List α} {k:Nat}:decide ((k:Int)<(l.length:Int))=decide (k<l.length):=by simp
end Go.Pv
