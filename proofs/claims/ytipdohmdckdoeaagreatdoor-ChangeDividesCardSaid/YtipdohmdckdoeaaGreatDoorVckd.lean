/-
  The symbolic executor, part d: where ways come together: a state of which only typed data are known.
-/
import Derived.Test.YtipdohmdckdoeaaGreatDoorVckc
set_option linter.defProp false
set_option linter.unusedSimpArgs false
namespace Go.Pv
open Go Go.RowKit
inductive UN (n:Nat):D->Prop
 | p (t:T):UN n (.p t)
 | agg (cs:List D):(∀ i (h:i<cs.length),UN n cs[i])->UN n (.agg cs)
 | cE (cs:List D):(∀ i (h:i<cs.length),UN n cs[i])->UN n (.cE cs)
 | ptr (k i j:Nat):k<n->UN n (.ptr k i j)
 | own (k:Nat):k<n->UN n (.own k)
 | bs (k o l:Nat):k<n->UN n (.bs k o l)
 | map (k:Nat):k<n->UN n (.map k)
 | it (k:Nat):k<n->UN n (.it k)
 | fn (f:FuncId) (a b:List D):(∀ i (h:i<a.length),UN n a[i])->(∀ i (h:i<b.length),UN n b[i])->UN n (.fn f a b)
 | sO (g:Bool) (d:D):UN n d->UN n (.cond g d)
 | DY (d:D):UN n (.cond false d)
 | any:UN n .any
section
variable {w : World} {own own' : Nat -> Prop} {ρ ρ' : Nat -> Option Loc} {n : Nat}
def Rd.blw (hρ:∀ k l,ρ k=some l->k<n) {d:D} {v:Value} (h:Rd w own ρ d v):UN n d:=by
 induction h with
 | p t x h=>exact .p t
 | agg cs vs hs _ ih=>exact .agg cs ih
 | cE cs vs hs _ ih=>exact .cE cs ih
 | ptr k i j l h=>exact .ptr k i j (hρ _ _ h)
 | own k l h h0 h2 h3=>exact .own k (hρ _ _ h)
 | dL k l a h h0=>exact .own k (hρ _ _ h)
 | bs k off len l h h2 h3=>exact .bs k off len (hρ _ _ h)
 | map k l h=>exact .map k (hρ _ _ h)
 | it k l h=>exact .it k (hρ _ _ h)
 | fn f fs cs va vb h1 h2 _ _ ih1 ih2=>exact .fn f fs cs ih1 ih2
 | sO d v _ ih=>exact .sO _ d ih
 | DY d=>exact .DY d
 | any v=>exact .any
def Rd.cut (hρ:∀ k,k<n->ρ' k=ρ k) (ho:∀ b,own' b->own b) {d:D} {v:Value} (h:Rd w own ρ d v) (hb:UN n d):Rd w own' ρ' d v:=by
 induction h with
 | p t x h=>exact .p t x (h.less ho)
 | agg cs vs hs _ ih=>cases hb with|agg _ hb=>exact .agg cs vs hs λi hi=>ih i hi (hb i hi)
 | cE cs vs hs _ ih=>cases hb with|cE _ hb=>exact .cE cs vs hs λi hi=>ih i hi (hb i hi)
 | ptr k i j l h=>cases hb with|ptr _ _ _ hk=>exact .ptr k i j l ((hρ k hk).trans h)
 | own k l h h0 h2 h3=>cases hb with|own _ hk=>exact .own k l ((hρ k hk).trans h) h0 h2 h3
 | dL k l a h h0=>cases hb with|own _ hk=>exact .dL k l a ((hρ k hk).trans h) h0
 | bs k off len l h h2 h3=>cases hb with|bs _ _ _ hk=>exact .bs k off len l ((hρ k hk).trans h) h2 h3
 | map k l h=>cases hb with|map _ hk=>exact .map k l ((hρ k hk).trans h)
 | it k l h=>cases hb with|it _ hk=>exact .it k l ((hρ k hk).trans h)
 | fn f fs cs va vb h1 h2 _ _ ih1 ih2=>cases hb with|fn _ _ _ hb1 hb2=>exact .fn f fs cs va vb h1 h2 (λi hi=>ih1 i hi (hb1 i hi)) (λi hi=>ih2 i hi (hb2 i hi))
 | sO d v _ ih=>cases hb with|sO _ _ hb=>exact .sO d v (ih hb)
 | DY d=>exact .DY d
 | any v=>exact .any v
end
def YT (n:Nat):bJ->Prop
 | .rows _ rs=>∀ i (hi:i<rs.length) j (hj:j<rs[i].length),UN n rs[i][j]
 | .arr _ _ _=>True
 | .map _ es=>∀ i (h:i<es.length),UN n es[i].2
 | .lP _ _=>True
 | .nW m _ _ _=>∀ k,m=some k->k<n
 | .cF _ _ _ _=>True
 | .held=>True
def lock:bJ->bJ
 | .rows _ rs=>.rows true rs
 | .arr _ z rows=>.arr true z rows
 | .map _ es=>.map true es
 | x=>x
section
variable {w : World} {own own' : Nat -> Prop} {ρ ρ' : Nat -> Option Loc} {n : Nat} {l : Loc} {x y : bJ}
def kG.blw (hρ:∀ k l,ρ k=some l->k<n) (h:kG w own ρ l x):YT n x:=by
 rcases Nat.eq_zero_or_pos (l.L+l.C) with h0|h0
 ·obtain ⟨ro,z,rfl⟩:=h.2 h0;trivial
 ·obtain ⟨o,_,hb⟩:=h.1 h0;cases hb with
  | rows _ rs c hr hz h' =>
   cases x with
   | rows ro rs'=>cases hr;exact λi hi j hj=>let ⟨v,_,hv⟩:=h'.cell i j hi hj;hv.blw hρ
   | arr ro z rows=>trivial
   | _=>simp[eG] at hr
  | map ro es ents h1 h2=>exact λi hi=>let ⟨e,_,_,_,hv⟩:=h2 i hi;hv.blw hρ
  | lP s pos=>trivial
  | nW m l' since seen last h'=>exact λk hk=>by cases hk;exact hρ _ _ h'
  | tY=>exact λk hk=>by cases hk
  | cF=>trivial
  | held o=>trivial
def BFB {rows:List (List T)} {i j:Nat} (hi:i<(a7 rows).length) (hj:j<(a7 rows)[i].length):∃ t,(a7 rows)[i][j] = .p t:=by
 simp only[a7,List.getElem_map];exact ⟨_,rfl⟩
def kG.cut (hρ:∀ k,k<n->ρ' k=ρ k) (ho:∀ b,own' b->own b) (h:kG w own ρ l x) (hb:YT n x):kG w own' ρ' l x:=by
 refine ⟨λh0=>?_,h.2⟩;obtain ⟨o,ho',hx⟩:=h.1 h0;refine ⟨o,ho',?_⟩;cases hx with
 | rows _ rs c hr hz h' =>
  refine .rows x rs c hr hz ⟨h'.size,h'.pos,h'.small,h'.len,h'.cnt,h'.width,λi j hi hj=>?_,h'.one⟩;obtain ⟨v,h1,h2⟩:=h'.cell i j hi hj;refine ⟨v,h1,h2.cut hρ ho ?_⟩;cases x with
  | rows ro rs'=>cases hr;exact hb i hi j hj
  | arr ro z rows=>cases hr;obtain ⟨t,ht⟩:=BFB hi hj;rw[ht];exact .p t
  | _=>simp[eG] at hr
 | map ro es ents h1 h2=>exact .map ro es ents h1 λi hi=>let ⟨e,a,b,c,hv⟩:=h2 i hi;⟨e,a,b,c,hv.cut hρ ho (hb i hi)⟩
 | lP s pos=>exact .lP s pos
 | nW m l' since seen last h'=>exact .nW m l' since seen last ((hρ m (hb m rfl)).trans h')
 | tY=>exact .tY
 | cF es b since seen last h'=>exact .cF es b since seen last (h'.less ho)
 | held o=>exact .held o
def kG.ABK (hxy:lock x=lock y) (h:kG w own ρ l x):kG w own ρ l y:=by
 refine ⟨λh0=>?_,λh0=>?_⟩
 ·obtain ⟨o,ho',hx⟩:=h.1 h0;refine ⟨o,ho',?_⟩;cases hx with
  | rows _ rs c hr hz h' =>
   cases x with
   | rows ro rs' =>
    cases y<;>simp only[lock,bJ.rows.injEq,reduceCtorEq] at hxy;obtain ⟨_,rfl⟩:=hxy;exact .rows _ rs c hr (λ_ _ _ e=>by cases e) h'
   | arr ro z rows =>
    cases y<;>simp only[lock,bJ.arr.injEq,reduceCtorEq] at hxy;obtain ⟨_,rfl,rfl⟩:=hxy;exact .rows _ rs c hr (λ_ _ _ e=>by cases e;exact hz _ _ _ rfl) h'
   | _=>simp[eG] at hr
  | map ro es ents h1 h2 =>
   cases y<;>simp only[lock,bJ.map.injEq,reduceCtorEq] at hxy;obtain ⟨_,rfl⟩:=hxy;exact .map _ es ents h1 h2
  | lP s pos=>cases y<;>simp only[lock,reduceCtorEq] at hxy;cases hxy;exact .lP s pos
  | nW m l' since seen last h'=>cases y<;>simp only[lock,reduceCtorEq] at hxy;cases hxy;exact .nW m l' since seen last h'
  | tY=>cases y<;>simp only[lock,reduceCtorEq] at hxy;cases hxy;exact .tY
  | cF es b since seen last h'=>cases y<;>simp only[lock,reduceCtorEq] at hxy;cases hxy;exact .cF es b since seen last h'
  | held o=>cases y<;>simp only[lock,reduceCtorEq] at hxy;exact .held o
 ·obtain ⟨ro,z,rfl⟩:=h.2 h0;cases y<;>simp only[lock,bJ.arr.injEq,reduceCtorEq] at hxy;obtain ⟨_,rfl,rfl⟩:=hxy;exact ⟨_,_,rfl⟩
def BZ (x:bJ):lock (lock x)=lock x:=by cases x<;>rfl
def BDZ (h:gY x=false):gY (lock x)=false:=by cases x<;>first|rfl|exact h
end
inductive It where
 | val (t:Tmp) (ag:Bool) (r:Sy)
 | own (t:Tmp) (z:Nat) (r:Sy)
 | box (k:Nat) (r:Sy)
 | map (k:Nat) (kr:Sy) (ag:Bool) (r:Sy)
 | lP (k:Nat)
 | nW (k:Nat) (m:Option Nat)
 | fix (k:Nat)
 | arr (k:Nat) (z:Nat) (r:Sy)
 | cF (k:Nat)
 | drop (k:Nat)
 | NY (k o z:Nat) (r:Sy)
abbrev It.den:It->Type
 | .val _ _ r=>r.den
 | .own _ _ r=>List r.den
 | .box _ r=>r.den
 | .map _ kr _ r=>List (kr.den×r.den)
 | .lP _=>iII×Nat
 | .nW _ _=>Nat×List Nat×Nat
 | .fix _=>Unit
 | .arr _ _ r=>List r.den
 | .cF _=>List (Value×T)×Nat×List Nat×Nat
 | .drop _=>Unit
 | .NY _ _ _ r=>List r.den
abbrev JX.den:List It->Type
 | []=>Unit
 | a::l=>a.den×JX.den l
def SG (kr:Sy) (x:kr.den):Value:=match hdT (kr.enc x) with
 | .v x=>x
 | _=>undef
def b6 (kr:Sy) (ag:Bool) (r:Sy) (e:kr.den×r.den):Value×D:=(SG kr e.1,.p (aG ag r e.2))
def Z0 (e:Value×D):Value×D:=match e.2 with
 | .p t=>(e.1,.p (t.canon 1))
 | _=>e
def cV (kr:Sy) (ag:Bool) (r:Sy) (es:List (Value×D)) (K:List (kr.den×r.den)->Prop):Prop:=∃ l,es.map Z0=l.map (b6 kr ag r)/\K l
def sQ (n:Nat) (seen:List Nat) (A:Prop) (B:Nat->Prop):Prop:=(cT n seen=[]->A)/\∀ i,i∈cT n seen->B i
def CU (kr:Sy) (ag:Bool) (r:Sy) (es:List (Value×D)) (seen:List Nat) (K:kr.den->r.den->Prop):Prop:=∃ i x y,seen.getLast? = some i/\es[i]? = some (b6 kr ag r (x,y))/\K x y
def gM (x y:bJ) (K:Prop):Prop:=x=y/\K
def A2T (A B:Prop):Prop:=A/\B
structure jN extends Combs where
 BNR:(kr:Sy)->(ag:Bool)->(r:Sy)->List (Value×D)->(List (kr.den×r.den)->Prop)->Prop
 each:Nat->List Nat->Prop->(Nat->Prop)->Prop
 ent:(kr:Sy)->(ag:Bool)->(r:Sy)->List (Value×D)->List Nat->(kr.den->r.den->Prop)->Prop
 same:bJ->bJ->Prop->Prop
 both:Prop->Prop->Prop
def cD:jN:={ oV with BNR:=cV,each:=sQ,ent:=CU,same:=gM,both:=A2T }
section
variable (C : jN)
def exV:(r:Sy)->List T->(r.den->Prop)->Prop
 | .int k,row,K=>match row with
  | [.v (.int k' n)]=>match decide (k'=k) with
   | true=>K n
   | false=>C.bad 301
  | _=>C.bad 302
 | .bool,row,K=>match row with
  | [.v (.bool b)]=>K b
  | _=>C.bad 303
 | .str,row,K=>match row with
  | [.v (.string s)]=>K s
  | _=>C.bad 304
 | .any,row,K=>match row with
  | [x]=>K x
  | _=>C.bad 305
 | .pr a b,row,K=>exV a (row.take a.w) λx=>exV b (row.drop a.w) λy=>K (x,y)
 | .li r,row,K=>match row with
  | [.sl _ rows]=>C.dec r rows K
  | [.v (.slice none 0 0)]=>K []
  | [.ne _]=>K []
  | _=>C.bad 306
def v8 (π:Nat->Nat->Bool) (k:Nat):Nat->List D->List D
 | _,[]=>[]
 | i,c::l=>(match π k i with
  | true=>.p (.sl false [])
  | false=>c)::v8 π k (i+1) l
def BPB (τ:Nat->Option bJ):Nat->List D->Nat
 | i,[]=>31600+i
 | i,c::l=>match jI τ 4 c with
  | some _=>BPB τ (i+1) l
  | none=>3160000+i*100+(match c with
   | .ptr _ _ _=>10
   | .own k=>match τ k with
    | some (.arr _ _ _)=>21
    | some _=>22
    | none=>20
   | .bs _ _ _=>30
   | .map _=>40
   | .it _=>50
   | .fn _ _ _=>60
   | .cond _ _=>70
   | .any=>80
   | _=>90)
def exI (τ:Nat->Option bJ) (π:Nat->Nat->Bool) (st₀ st:St):(it:It)->(it.den->Prop)->Prop
 | .val t ag r,K=>match jI τ 4 (st.s t),ag with
  | some (.agg cs),true=>exV C r cs K
  | some (.v (.agg vs)),true=>exV C r (vs.toList.map .v) K
  | some x,false=>exV C r [x] K
  | _,_=>C.bad 311
 | .own t z r,K=>match st.s t with
  | .own k=>match st.σ k with
   | some (.arr ro z' rows)=>match !ro&&z' == z with
    | true=>C.dec r rows K
    | false=>C.bad 312
   | _=>C.bad 313
  | .p tt=>match fO tt with
   | some (true,[])=>K []
   | _=>C.bad 314
  | _=>C.bad 315
 | .box k r,K=>match st.σ k with
  | some (.rows ro [cells])=>match ro,(v8 π k 0 cells).mapM (jI τ 4) with
   | false,some ts=>exV C r ts K
   | _,_=>C.bad (BPB τ 0 cells)
  | _=>C.bad 317
 | .map k kr ag r,K=>match st.σ k with
  | some (.map ro es)=>match ro with
   | false=>C.BNR kr ag r es K
   | true=>C.bad 318
  | _=>C.bad 319
 | .lP k,K=>match st.σ k with
  | some (.lP s pos)=>K (s,pos)
  | _=>C.bad 320
 | .nW k m,K=>match st.σ k with
  | some (.nW m' since seen last)=>match decide (m'=m) with
   | true=>K (since,seen,last)
   | false=>C.bad 321
  | _=>C.bad 322
 | .fix k,K=>match st.σ k,st₀.σ k with
  | some x,some y=>match gY x with
   | true=>C.same x y (K ())
   | false=>C.bad 324
  | _,_=>C.bad 325
 | .arr k z r,K=>match st.σ k with
  | some (.arr ro z' rows)=>match !ro&&z' == z with
   | true=>C.dec r rows K
   | false=>C.bad 326
  | _=>C.bad 327
 | .cF k,K=>match st.σ k with
  | some (.cF es since seen last)=>K (es,since,seen,last)
  | _=>C.bad 323
 | .drop _,K=>K ()
 | .NY k o z r,K=>match st.σ k with
  | some (.rows false [cells])=>match cells[o]? with
   | some (.own k')=>match st.σ k' with
    | some (.arr ro z' rows)=>match !ro&&z' == z with
     | true=>C.dec r rows K
     | false=>C.bad 332
    | _=>C.bad 333
   | some (.p tt)=>match fO tt with
    | some (true,[])=>K []
    | _=>C.bad 334
   | _=>C.bad 335
  | _=>C.bad 336
def Z9 (τ:Nat->Option bJ) (π:Nat->Nat->Bool) (st₀ st:St):(its:List It)->(JX.den its->Prop)->Prop
 | [],K=>K ()
 | it::l,K=>exI C τ π st₀ st it λx=>Z9 τ π st₀ st l λy=>K (x,y)
end
def CS (n:Nat):(its:List It)->JX.den its->Nat->Nat->D
 | [],_,_,_=>.any
 | .val t ag r::l,y,j,i=>match i == t with
  | true=>.p (aG ag r y.1)
  | false=>CS n l y.2 j i
 | .own t _ _::l,y,j,i=>match i == t with
  | true=>.own (n+j)
  | false=>CS n l y.2 (j+1) i
 | .box _ _::l,y,j,i=>CS n l y.2 j i
 | .map _ _ _ _::l,y,j,i=>CS n l y.2 j i
 | .lP _::l,y,j,i=>CS n l y.2 j i
 | .nW _ _::l,y,j,i=>CS n l y.2 j i
 | .fix _::l,y,j,i=>CS n l y.2 j i
 | .arr _ _ _::l,y,j,i=>CS n l y.2 j i
 | .cF _::l,y,j,i=>CS n l y.2 j i
 | .drop _::l,y,j,i=>CS n l y.2 j i
 | .NY _ _ _ _::l,y,j,i=>CS n l y.2 (j+1) i
def mM (f:Nat->List D->List D) (st₀:St):(its:List It)->JX.den its->Nat->Option bJ
 | [],_,_=>none
 | .val _ _ _::l,y,i=>mM f st₀ l y.2 i
 | .own _ _ _::l,y,i=>mM f st₀ l y.2 i
 | .box k r::l,y,i=>match i == k with
  | true=>some (.rows false [f k ((r.enc y.1).map .p)])
  | false=>mM f st₀ l y.2 i
 | .map k kr ag r::l,y,i=>match i == k with
  | true=>some (.map false (y.1.map (b6 kr ag r)))
  | false=>mM f st₀ l y.2 i
 | .lP k::l,y,i=>match i == k with
  | true=>some (.lP y.1.1 y.1.2)
  | false=>mM f st₀ l y.2 i
 | .nW k m::l,y,i=>match i == k with
  | true=>some (.nW m y.1.1 y.1.2.1 y.1.2.2)
  | false=>mM f st₀ l y.2 i
 | .fix k::l,y,i=>match i == k with
  | true=>st₀.σ k
  | false=>mM f st₀ l y.2 i
 | .arr k z r::l,y,i=>match i == k with
  | true=>some (.arr false z (y.1.map r.enc))
  | false=>mM f st₀ l y.2 i
 | .cF k::l,y,i=>match i == k with
  | true=>some (.cF y.1.1 y.1.2.1 y.1.2.2.1 y.1.2.2.2)
  | false=>mM f st₀ l y.2 i
 | .drop k::l,y,i=>match i == k with
  | true=>none
  | false=>mM f st₀ l y.2 i
 | .NY _ _ _ _::l,y,i=>mM f st₀ l y.2 i
def CR:(its:List It)->JX.den its->Nat->Option bJ
 | [],_,_=>none
 | .own _ z r::l,y,j=>match j with
  | 0=>some (.arr false z (y.1.map r.enc))
  | j+1=>CR l y.2 j
 | .NY _ _ z r::l,y,j=>match j with
  | 0=>some (.arr false z (y.1.map r.enc))
  | j+1=>CR l y.2 j
 | .val _ _ _::l,y,j=>CR l y.2 j
 | .box _ _::l,y,j=>CR l y.2 j
 | .map _ _ _ _::l,y,j=>CR l y.2 j
 | .lP _::l,y,j=>CR l y.2 j
 | .nW _ _::l,y,j=>CR l y.2 j
 | .fix _::l,y,j=>CR l y.2 j
 | .arr _ _ _::l,y,j=>CR l y.2 j
 | .cF _::l,y,j=>CR l y.2 j
 | .drop _::l,y,j=>CR l y.2 j
def BH (st:St) (k o:Nat):Option Nat:=match st.σ k with
 | some (.rows false [cells])=>match cells[o]? with
  | some (.own k')=>some k'
  | _=>none
 | _=>none
def rJ:List It->Nat->Nat->Bool
 | [],_,_=>false
 | .NY k o _ _::l,k',o'=>(k' == k&&o' == o)||rJ l k' o'
 | _::l,k',o'=>rJ l k' o'
def S5 (n:Nat):List It->Nat->Nat->List D->List D
 | [],_,_,row=>row
 | .own _ _ _::l,j,k,row=>S5 n l (j+1) k row
 | .NY k' o _ _::l,j,k,row=>match k == k' with
  | true=>(S5 n l (j+1) k row).set o (.own (n+j))
  | false=>S5 n l (j+1) k row
 | _::l,j,k,row=>S5 n l j k row
def j4:List It->St->List (Option Nat)
 | [],_=>[]
 | .own t _ _::l,st=>(match st.s t with
  | .own k=>some k
  | _=>none)::j4 l st
 | .val _ _ _::l,st=>j4 l st
 | .box _ _::l,st=>j4 l st
 | .map _ _ _ _::l,st=>j4 l st
 | .lP _::l,st=>j4 l st
 | .nW _ _::l,st=>j4 l st
 | .fix _::l,st=>j4 l st
 | .arr _ _ _::l,st=>j4 l st
 | .cF _::l,st=>j4 l st
 | .drop _::l,st=>j4 l st
 | .NY k o _ _::l,st=>BH st k o::j4 l st
def x8:List It->Nat
 | []=>0
 | .own _ _ _::l=>x8 l+1
 | .val _ _ _::l=>x8 l
 | .box _ _::l=>x8 l
 | .map _ _ _ _::l=>x8 l
 | .lP _::l=>x8 l
 | .nW _ _::l=>x8 l
 | .fix _::l=>x8 l
 | .arr _ _ _::l=>x8 l
 | .cF _::l=>x8 l
 | .drop _::l=>x8 l
 | .NY _ _ _ _::l=>x8 l+1
def j5:∀ (its:List It) (st:St),(j4 its st).length=x8 its
 | [],_=>rfl
 | .own _ _ _::l,st=>by simp only[j4,x8,List.length_cons,j5 l st]
 | .val _ _ _::l,st=>j5 l st
 | .box _ _::l,st=>j5 l st
 | .map _ _ _ _::l,st=>j5 l st
 | .lP _::l,st=>j5 l st
 | .nW _ _::l,st=>j5 l st
 | .fix _::l,st=>j5 l st
 | .arr _ _ _::l,st=>j5 l st
 | .cF _::l,st=>j5 l st
 | .drop _::l,st=>j5 l st
 | .NY _ _ _ _::l,st=>by simp only[j4,x8,List.length_cons,j5 l st]
def DX:List It->Nat->Bool
 | [],_=>false
 | .box k _::l,i=>i == k||DX l i
 | .map k _ _ _::l,i=>i == k||DX l i
 | .lP k::l,i=>i == k||DX l i
 | .nW k _::l,i=>i == k||DX l i
 | .fix k::l,i=>i == k||DX l i
 | .arr k _ _::l,i=>i == k||DX l i
 | .cF k::l,i=>i == k||DX l i
 | .drop k::l,i=>i == k||DX l i
 | .NY _ _ _ _::l,i=>DX l i
 | .val _ _ _::l,i=>DX l i
 | .own _ _ _::l,i=>DX l i
def N3 (n:Nat):List It->Bool
 | []=>true
 | .nW _ (some m)::l=>decide (m<n)&&N3 n l
 | _::l=>N3 n l
def AGN:bJ->Bool
 | .lP _ _=>false
 | .nW _ _ _ _=>false
 | .cF _ _ _ _=>false
 | _=>true
def AF8:List (Option Nat)->Nat->Bool
 | [],_=>false
 | some k::l,i=>i == k||AF8 l i
 | none::l,i=>AF8 l i
def kept (its:List It) (st₀:St) (k:Nat):Bool:=decide (k<st₀.n)&&match st₀.σ k with
 | some x=>!gY x||(!DX its k && !AF8 (j4 its st₀) k&&AGN x)
 | none=>false
def apart:List (Option Nat)->Bool
 | []=>true
 | some k::l=>!AF8 l k&&apart l
 | none::l=>apart l
def NK (its:List It) (st₀ st:St):Bool:=apart (j4 its st)&&(j4 its st).all (λx=>match x with
 | some k=>!kept its st₀ k && !DX its k
 | none=>true)&&N3 st₀.n its
def lW:List It->Nat->Bool
 | [],_=>false
 | .drop k::l,i=>i == k||lW l i
 | .box k _::l,i=>!(i == k)&&lW l i
 | .map k _ _ _::l,i=>!(i == k)&&lW l i
 | .lP k::l,i=>!(i == k)&&lW l i
 | .nW k _::l,i=>!(i == k)&&lW l i
 | .fix k::l,i=>!(i == k)&&lW l i
 | .arr k _ _::l,i=>!(i == k)&&lW l i
 | .cF k::l,i=>!(i == k)&&lW l i
 | .val _ _ _::l,i=>lW l i
 | .own _ _ _::l,i=>lW l i
 | .NY _ _ _ _::l,i=>lW l i
def A5U (its:List It) (st₀ st:St) (k:Nat):Bool:=(decide (st₀.n<=k)||(!kept its st₀ k&&lW its k)) && !AF8 (j4 its st) k
def AOV (its:List It) (st₀ st:St):Nat->Option bJ:=λk=>match A5U its st₀ st k with
 | true=>st.σ k
 | false=>none
def A3U (C:jN) (st₀ st:St) (its:List It) (K:JX.den its->Prop):Prop:=Z9 C (AOV its st₀ st) (rJ its) st₀ st its K
def D6 (its:List It) (A:Nat->Bool) (st₀:St) (y:JX.den its):St :=
 ⟨λi=>match A i with
  | true=>CS st₀.n its y 0 i
  | false=>st₀.s i,
  λk=>match decide (k<st₀.n) with
  | true=>match kept its st₀ k with
   | true=>(st₀.σ k).map lock
   | false=>mM (S5 st₀.n its 0) st₀ its y k
  | false=>CR its y (k-st₀.n),
  st₀.n+x8 its⟩
def U9 (its:List It) (st₀:St):St:=⟨st₀.s,λk=>match kept its st₀ k with
 | true=>(st₀.σ k).map lock
 | false=>st₀.σ k,st₀.n⟩
def unS (its:List It) (st₀ st:St):St:=⟨st.s,λk=>match kept its st₀ k with
 | true=>st₀.σ k
 | false=>st.σ k,st.n⟩
def Wk (a b:List T):Prop:=a.length=b.length/\∀ (i:Nat) (x y:T),a[i]? = some x->b[i]? = some y->∀ (w:World) (own:Nat->Prop) (v:Value),cP w own x v->cP w own y v
def Wk.refl (a:List T):Wk a a:=⟨rfl,λi x y hx hy=>by rw[hx] at hy;cases hy;exact λ_ _ _ h=>h⟩
def A74 {w:World} {own:Nat->Prop} {f:Bool} {rows:List (List T)} {v:Value} (h:cP w own (.sl f rows) v):cP w own (.sl false (kX rows)) v:=by
 cases h with
 | cW _ a cap hf hn=>exact .cW false a cap (by simp) hn
 | sl _ _ sz b o cap g h1 h2 h3 h4 h45 h5 h6 h7 h8 =>
  have hl:(kX rows).length=rows.length:=by simp[kX]
  rw[<-hl];refine .sl false (kX rows) sz b o cap g (by omega) (by omega) (by simp) h4 h45 (λr hr=>?_) h6 (λi j hi hj=>h7 i j (by omega) hj) (λi j hi hj=>?_)
  ·simp only[kX,List.mem_map] at hr;obtain ⟨r',hr',rfl⟩:=hr;simpa using h5 r' hr'
  ·have hi':i<rows.length:=by omega
   have hr:(kX rows)[i]=rows[i].map (T.canon 0):=by simp[kX]
   have hj':j<rows[i].length:=by rw[hr] at hj;simpa using hj
   have:(kX rows)[i][j]=T.canon 0 rows[i][j]:=by simp[kX]
   rw[this];exact (h8 i j hi' hj').canon 0
def uQ:∀ {r:Sy} {row:List T} {K:r.den->Prop},exV cD r row K->∃ y,K y/\Wk row (r.enc y)
 | .int k,row,K,h=>by
  simp only[exV] at h;split at h
  ·split at h
   ·rename_i hk;have hk:=of_decide_eq_true hk;subst hk;exact ⟨_,h,Wk.refl _⟩
   ·exact h.elim
  ·exact h.elim
 | .bool,row,K,h=>by
  simp only[exV] at h;split at h
  ·exact ⟨_,h,Wk.refl _⟩
  ·exact h.elim
 | .str,row,K,h=>by
  simp only[exV] at h;split at h
  ·exact ⟨_,h,Wk.refl _⟩
  ·exact h.elim
 | .any,row,K,h=>by
  simp only[exV] at h;split at h
  ·exact ⟨_,h,Wk.refl _⟩
  ·exact h.elim
 | .pr a b,row,K,h=>by
  simp only[exV] at h;obtain ⟨x,h1,w1⟩:=uQ h;obtain ⟨y,h2,w2⟩:=uQ h1;refine ⟨(x,y),h2,?_,λi u v hu hv=>?_⟩
  ·have l1:=w1.1;have l2:=w2.1;simp only[List.length_take,Sy.dD,List.length_drop] at l1 l2;simp only[Sy.enc,List.length_append,Sy.dD];omega
  ·have l1:=w1.1;simp only[List.length_take,Sy.dD] at l1;simp only[Sy.enc] at hv;by_cases hi:i<a.w
   ·rw[List.getElem?_append_left (by rw[Sy.dD];exact hi)] at hv;exact w1.2 i u v (by rw[List.getElem?_take];simp[hi,hu]) hv
   ·rw[List.getElem?_append_right (by rw[Sy.dD];omega),Sy.dD] at hv;exact w2.2 (i-a.w) u v (by rw[List.getElem?_drop];rw[show a.w+(i-a.w)=i by omega];exact hu) hv
 | .li r,row,K,h=>by
  simp only[exV] at h;have one:∀ (u:T) (l:List r.den),(∀ w own v,cP w own u v->cP w own (.sl false (l.map r.enc)) v)->Wk [u] (Sy.enc (.li r) l):=by
   intro u l hw;refine ⟨rfl,λi x y hx hy=>?_⟩
   match i with
   | 0=>simp at hx;simp only[Sy.enc] at hy;simp at hy;subst hx;subst hy;exact hw
   | i+1=>simp at hx
  split at h
  ·rename_i f rows;obtain ⟨l,h1,h2⟩:=h;exact ⟨l,h2,one _ _ λw own v hv=>by rw[<-h1];exact A74 hv⟩
  ·refine ⟨[],h,one _ _ λw own v hv=>?_⟩;cases hv;exact .cW false none 0 (by simp) (by simp)
  ·refine ⟨[],h,one _ _ λw own v hv=>?_⟩;cases hv with
   | ne _ a cap hf=>exact .cW false (some a) cap (by simp) (by simp)
  ·exact h.elim
def VG:Loc:=⟨0,0,0,0,0⟩
structure ASV (τ:Nat->Option bJ) (st:St) (cx:Cx) (ρ:Nat->Option Loc) (m:Nat) (w:World) (own':Nat->Prop):Prop where
 inv:Inv cx ρ st.σ m w
 sub:∀ b,own' b->Own cx ρ st.σ b
 tau:∀ k x,τ k=some x->st.σ k=some x
 dis:∀ k x l,τ k=some x->ρ k=some l->0<l.L+l.C->¬ own' l.bN
variable {τ:Nat->Option bJ}{st:St}{ρ:Nat->Option Loc}{own':Nat->Prop}
def ASV.jI {cx:Cx} {m:Nat} {w:World} (h:ASV τ st cx ρ m w own') {k:Nat} {d:D} {t:T} {v:Value} (hd:Rd w (Own cx ρ st.σ) ρ d v) (hf:Go.Pv.jI τ k d=some t):cP w own' t v :=
 E8 h.inv h.sub h.tau h.dis k hd hf
structure DV (n:Nat) (τ:Nat->Option bJ) (sr:List (Option Nat)) (st:St) (x y:bJ):Prop where
 ok:∀ (cx:Cx) (m:Nat) (w:World) (own':Nat->Prop) (ρ ρ':Nat->Option Loc) (l:Loc),(∀ k,k<n->ρ' k=ρ k)->(∀ j src,sr[j]? = some src->ρ' (n+j)=match src with
  | some k=>ρ k
  | none=>some VG)->ASV τ st cx ρ m w own'->kG w (Own cx ρ st.σ) ρ l x->kG w own' ρ' l y
 wr:gY x=true
def BNG (n:Nat) (τ:Nat->Option bJ) (π:Nat->Nat->Bool) (sr:List (Option Nat)) (st₀ st:St):(it:It)->it.den->Prop
 | .val t ag r,y=>∀ cx m ρ w own' v,ASV τ st cx ρ m w own'->Rd w (Own cx ρ st.σ) ρ (st.s t) v->cP w own' (aG ag r y) v
 | .own t z r,y=>(∃ k rows,st.s t = .own k/\st.σ k=some (.arr false z rows)/\kX rows=List.map r.enc y)\/(y=([]:List r.den)/\∃ tt,st.s t = .p tt/\fO tt=some (true,[]))
 | .box k r,y=>∃ cells ts,st.σ k=some (.rows false [cells])/\(v8 π k 0 cells).mapM (jI τ 4)=some ts/\Wk ts (r.enc y)
 | .map k kr ag r,y=>∃ x,st.σ k=some x/\DV n τ sr st x (.map false (List.map (b6 kr ag r) y))
 | .lP k,y=>∃ x,st.σ k=some x/\DV n τ sr st x (.lP y.1 y.2)
 | .nW k m,y=>∃ x,st.σ k=some x/\DV n τ sr st x (.nW m y.1 y.2.1 y.2.2)
 | .fix k,_=>∃ x,st.σ k=some x/\st₀.σ k=some x/\gY x=true
 | .arr k z r,y=>∃ x,st.σ k=some x/\DV n τ sr st x (.arr false z (List.map r.enc y))
 | .cF k,y=>∃ x,st.σ k=some x/\DV n τ sr st x (.cF y.1 y.2.1 y.2.2.1 y.2.2.2)
 | .drop _,_=>True
 | .NY k o z r,y=>∃ cells c,st.σ k=some (.rows false [cells])/\cells[o]? = some c/\((∃ k' rows,c = .own k'/\st.σ k'=some (.arr false z rows)/\kX rows=List.map r.enc y)\/(y=([]:List r.den)/\∃ tt,c = .p tt/\fO tt=some (true,[])))
def yD (n:Nat) (τ:Nat->Option bJ) (π:Nat->Nat->Bool) (sr:List (Option Nat)) (st₀ st:St):(its:List It)->JX.den its->Prop
 | [],_=>True
 | it::l,y=>BNG n τ π sr st₀ st it y.1/\yD n τ π sr st₀ st l y.2
def AO4 (n:Nat) (st₀ st:St) (its:List It) (y:JX.den its):Prop:=yD n (AOV its st₀ st) (rJ its) (j4 its st) st₀ st its y
def wA {π:Nat->Nat->Bool} {k:Nat}:∀ {cells:List D} {i:Nat},(v8 π k i cells).length=cells.length
 | [],_=>rfl
 | c::l,i=>by simp only[v8,List.length_cons,wA (cells:=l)]
def QR {π:Nat->Nat->Bool} {k:Nat}:∀ {cells:List D} {i q:Nat} (h:q<cells.length),π k (i+q)=false->(v8 π k i cells)[q]'(by rw[wA];exact h)=cells[q]
 | c::l,i,0,h,hp=>by
  simp only[v8,List.getElem_cons_zero];rw[show π k i=false from hp]
 | c::l,i,q+1,h,hp=>by
  simp only[v8,List.getElem_cons_succ];exact QR (by simpa using h) (by rw[<-hp];congr 1;omega)
structure A2E (π:Nat->Nat->Bool) (n k:Nat) (sr:List (Option Nat)) (cells:List D) (base row:List D):Prop where
 len:row.length=base.length
 at_:∀ i c,row[i]? = some c->(π k i=false/\base[i]? = some c)\/(π k i=true/\∃ j src,c = .own (n+j)/\sr[j]? = some src/\((∃ k',cells[i]? = some (.own k')/\src=some k')\/(src=none/\∃ tt,cells[i]? = some (.p tt)/\fO tt=some (true,[]))))
def AHM {w:World} {own:Nat->Prop} {tt:T} {v:Value} (h:cP w own tt v) (hr:fO tt=some (true,[])):∃ a,v = .slice a 0 0:=by
 unfold fO at hr;split at hr
 ·cases hr;cases h with
  | cW _ a cap hf hn=>rw[hf rfl];exact ⟨a,rfl⟩
  | sl _ _ sz b o cap g h1 h2 h3 h4 h45 h5 h6 h7 h8=>have:=h3 rfl;simp at this;subst this;exact ⟨_,rfl⟩
 ·cases hr;cases h;exact ⟨none,rfl⟩
 ·cases hr;cases h with
  | ne _ a cap hf=>exact ⟨some a,by rw[hf rfl]⟩
 ·cases hr
def ACQ {w:World} {own:Nat->Prop} {a b:List T} (h:Wk a b) {v:Value} (hv:cP w own (.agg a) v):cP w own (.agg b) v:=by
 cases hv with
 | agg _ vs h1 h2 =>
  refine .agg b vs (by rw[h1,h.1]) λi hi=>?_;have hi':i<a.length:=by rw[h.1];exact hi
  exact h.2 i a[i] b[i] (by simp[hi']) (by simp[hi]) _ _ _ (h2 i hi')
def A9Q {w:World} {own:Nat->Prop} {x:T} {b:List T} (h:Wk [x] b) {v:Value} (hv:cP w own x v):cP w own (hdT b) v:=by
 have hl:=h.1
 match b,hl with
 | [y],_=>exact h.2 0 x y rfl rfl _ _ _ hv
variable {π:Nat->Nat->Bool}{sr:List (Option Nat)}
def AKV {n k:Nat} {cells:List D} {ts ts':List T} {row:List D} (hm:(v8 π k 0 cells).mapM (jI τ 4)=some ts) (h:Wk ts ts') (hw:A2E π n k sr cells (ts'.map .p) row):DV n τ sr st (.rows false [cells]) (.rows false [row]):=by
 refine ⟨λcx m w own' ρ ρ' l hρ hs hzz hb=>?_,rfl⟩;obtain ⟨m1,m2⟩:=mapM_some_length hm;rw[wA] at m1;refine ⟨λh0=>?_,λh0=>by obtain ⟨_,_,e⟩:=hb.2 h0;cases e⟩;obtain ⟨o,h1,h2⟩:=hb.1 h0;refine ⟨o,h1,?_⟩;have hlen:row.length=cells.length:=by rw[hw.len,ae,<-h.1,m1]
 cases h2 with
 | rows _ rs c hr hz h2 =>
  cases hr;refine .rows _ [row] c rfl (λ_ _ _ e=>by cases e) ⟨h2.size,h2.pos,h2.small,h2.len,h2.cnt,λr hr=>?_,λi j hi hj=>?_,h2.one⟩
  ·have:=h2.width cells (by simp);simp only[List.mem_singleton] at hr;subst hr;rw[hlen];exact this
  ·have hi0:i=0:=by simpa using hi
   subst hi0;simp only[List.getElem_cons_zero] at hj;have hj2:j<cells.length:=by omega
   have hj':j<ts.length:=by omega
   obtain ⟨v,e1,e2⟩:=h2.cell 0 j (by simp) (by simpa using hj2);refine ⟨v,e1,?_⟩;simp only[List.getElem_cons_zero] at e2 ⊢;rcases hw.at_ j row[j] (by simp[hj]) with ⟨p1,p2⟩|⟨p1,q,src,p2,p3,p4⟩
   ·have e3:row[j] = .p (ts'[j]'(by rw[<-h.1];exact hj')):=by
     have:=List.getElem?_eq_some_iff.1 p2;obtain ⟨_,g⟩:=this;rw[<-g,List.getElem_map]
    rw[e3];refine .p _ _ (h.2 j ts[j] _ (by simp[hj']) (by simp[h.1 ▸ hj']) _ _ _ (hzz.jI (k:=4) e2 ?_));have:=m2 j (by rw[wA];exact hj2) hj';rw[QR hj2 (by rw[Nat.zero_add];exact p1)] at this;exact this
   ·rw[p2];have h3:=hs q src p3;have hc:cells[j]? = some cells[j]:=by simp[hj2]
    rcases p4 with ⟨k',g1,rfl⟩|⟨rfl,tt,g1,g2⟩
    ·rw[hc] at g1;rw[Option.some.inj g1] at e2;simp only at h3;cases e2 with
     | own _ lo hl hL h4 h5=>exact .own _ lo (h3.trans hl) hL h4 h5
     | dL _ lo a hl hL=>exact .dL _ lo a (h3.trans hl) hL
    ·rw[hc] at g1;rw[Option.some.inj g1] at e2;cases e2 with
     | p _ _ e2 =>
      obtain ⟨a,rfl⟩:=AHM e2 g2;exact .dL _ VG a h3 rfl
def BCE {w:World} {own:Nat->Prop} {e:Value×D} {v:Value} (h:Rd w own ρ e.2 v):Rd w own ρ (Z0 e).2 v:=by
 unfold Z0;split
 ·rename_i t ht;rw[ht] at h;cases h with
  | p _ _ h=>exact .p _ _ (h.canon 1)
 ·exact h
def A2Y (e:Value×D):(Z0 e).1=e.1:=by unfold Z0;split<;>rfl
def ATE {n:Nat} {es:List (Value×D)} {kr:Sy} {ag:Bool} {r:Sy} {l:List (kr.den×r.den)} (h:es.map Z0=l.map (b6 kr ag r)):DV n τ sr st (.map false es) (.map false (l.map (b6 kr ag r))):=by
 refine ⟨λcx m w own' ρ ρ' lo hρ _ hz hb=>?_,rfl⟩;refine ⟨λh0=>?_,λh0=>by obtain ⟨_,_,e⟩:=hb.2 h0;cases e⟩;obtain ⟨o,h1,h2⟩:=hb.1 h0;refine ⟨o,h1,?_⟩;cases h2 with
 | rows _ rs c hr hz h2=>simp[eG] at hr
 | map _ _ ents e1 e2 =>
  have hlen:es.length=(l.map (b6 kr ag r)).length:=by rw[<-h];simp
  rw[hlen];refine .map false _ ents (by omega) λi hi=>?_;have hi':i<es.length:=by omega
  obtain ⟨e,g1,g2,g3,g4⟩:=e2 i hi';have he:(l.map (b6 kr ag r))[i]=Z0 es[i]:=by
   have:(es.map Z0)[i]'(by simpa using hi')=(l.map (b6 kr ag r))[i]:=by congr 1
   rw[<-this];simp
  have hp:∃ t,(l.map (b6 kr ag r))[i].2 = .p t:=by simp only[List.getElem_map];exact ⟨_,rfl⟩
  refine ⟨e,g1,?_,g3,?_⟩
  ·rw[he,A2Y];exact g2
  ·have g5:=BCE g4;rw[<-he] at g5;obtain ⟨t,ht⟩:=hp;rw[ht] at g5 ⊢;cases g5 with
   | p _ _ g5=>exact .p _ _ (g5.less hz.sub)
def QT {w:World} {own:Nat->Prop} {ρ':Nat->Option Loc} {l:Loc} {ro:Bool} {z:Nat} {rows:List (List T)} (ho:∀ b,own' b->own b) (h:kG w own ρ l (.arr ro z rows)):kG w own' ρ' l (.arr ro z (kX rows)):=by
 refine ⟨λh0=>?_,λh0=>?_⟩
 ·obtain ⟨o,h1,h2⟩:=h.1 h0;refine ⟨o,h1,?_⟩;cases h2 with
  | rows _ rs c hr hz h2 =>
   cases hr;have hl:(a7 (kX rows)).length=(a7 rows).length:=by simp[a7,kX]
   refine .rows _ (a7 (kX rows)) c rfl (λ_ _ _ e=>by cases e;exact hz _ _ _ rfl) ⟨h2.size,h2.pos,by have:=h2.small;omega,by have:=h2.len;omega,by have:=h2.cnt;omega,λr hr=>?_,λi j hi hj=>?_,h2.one⟩
   ·simp only[a7,kX,List.map_map,List.mem_map,Function.comp] at hr;obtain ⟨r',hr',rfl⟩:=hr;have:=h2.width (r'.map .p) (by simp only[a7,List.mem_map];exact ⟨r',hr',rfl⟩);simpa using this
   ·have hi':i<rows.length:=by simpa [a7,kX] using hi
    have e1:(a7 (kX rows))[i]=(rows[i].map (T.canon 0)).map .p:=by simp[a7,kX]
    have hj':j<rows[i].length:=by rw[e1] at hj;simpa using hj
    have e3:(a7 rows)[i]'(by simpa using hi')=rows[i].map .p:=by simp[a7]
    obtain ⟨v,g1,g2⟩:=h2.cell i j (by simpa using hi') (by rw[e3];simpa using hj');refine ⟨v,g1,?_⟩;have e2:(a7 (kX rows))[i][j] = .p (T.canon 0 rows[i][j]):=by simp[a7,kX]
    have e4:((a7 rows)[i]'(by simpa using hi'))[j]'(by rw[e3];simpa using hj') = .p rows[i][j]:=by simp[a7]
    rw[e4] at g2;rw[e2];cases g2 with
    | p _ _ g2=>exact .p _ _ ((g2.canon 0).less ho)
 ·obtain ⟨_,_,e⟩:=h.2 h0;cases e;exact ⟨_,_,rfl⟩
variable {st₀:St}
def A3T {n:Nat} {it:It} {K:it.den->Prop} (hm:N3 n [it]=true) (h:exI cD τ π st₀ st it K):∃ y,K y/\BNG n τ π sr st₀ st it y:=by
 cases it with
 | val t ag r =>
  simp only[exI] at h;split at h
  ·rename_i cs hs;obtain ⟨y,h1,h2⟩:=uQ h;exact ⟨y,h1,λcx m ρ w own' v hz hv=>ACQ h2 (hz.jI hv hs)⟩
  ·rename_i vs hs;obtain ⟨y,h1,h2⟩:=uQ h;refine ⟨y,h1,λcx m ρ w own' v hz hv=>?_⟩;have hv:=hz.jI hv hs;cases hv;exact ACQ h2 (.agg _ _ (dF.vs (R:=cP w own') (g:=T.v) .v _).1 (dF.vs (R:=cP w own') (g:=T.v) .v _).2)
  ·rename_i x hs;obtain ⟨y,h1,h2⟩:=uQ h;exact ⟨y,h1,λcx m ρ w own' v hz hv=>A9Q h2 (hz.jI hv hs)⟩
  ·exact h.elim
 | own t z r =>
  simp only[exI] at h;split at h
  ·rename_i k hs;split at h
   ·rename_i ro z' rows hσ;split at h
    ·rename_i hc;simp only[ac,Bool.not_eq_true',beq_iff_eq] at hc;obtain ⟨rfl,rfl⟩:=hc;obtain ⟨l,h1,h2⟩:=h;exact ⟨l,h2,.inl ⟨k,rows,hs,hσ,h1⟩⟩
    ·exact h.elim
   ·exact h.elim
  ·rename_i tt hs;split at h
   ·rename_i hr;exact ⟨[],h,.inr ⟨rfl,tt,hs,hr⟩⟩
   ·exact h.elim
  ·exact h.elim
 | box k r =>
  simp only[exI] at h;split at h
  ·rename_i ro cells hσ;split at h
   ·rename_i ts hts;obtain ⟨y,h1,h2⟩:=uQ h;exact ⟨y,h1,cells,ts,hσ,hts,h2⟩
   ·exact h.elim
  ·exact h.elim
 | map k kr ag r =>
  simp only[exI] at h;split at h
  ·rename_i ro es hσ;split at h
   ·obtain ⟨l,h1,h2⟩:=h;exact ⟨l,h2,_,hσ,ATE h1⟩
   ·exact h.elim
  ·exact h.elim
 | lP k =>
  simp only[exI] at h;split at h
  ·rename_i s pos hσ;exact ⟨(s,pos),h,_,hσ,λcx m w own' ρ ρ' l hρ _ hz hb=>hb.cut hρ hz.sub trivial,rfl⟩
  ·exact h.elim
 | nW k m =>
  simp only[exI] at h;split at h
  ·rename_i m' since seen last hσ;split at h
   ·rename_i hm';have hm':=of_decide_eq_true hm';subst hm';refine ⟨(since,seen,last),h,_,hσ,λcx m w own' ρ ρ' l hρ _ hz hb=>hb.cut hρ hz.sub ?_,rfl⟩;intro km hkm;subst hkm;simpa [N3] using hm
   ·exact h.elim
  ·exact h.elim
 | fix k =>
  simp only[exI] at h;split at h
  ·rename_i x y hx hy;split at h
   ·rename_i hw;obtain ⟨rfl,h⟩:=h;exact ⟨(),h,_,hx,hy,hw⟩
   ·exact h.elim
  ·exact h.elim
 | arr k z r =>
  simp only[exI] at h;split at h
  ·rename_i ro z' rows hσ;split at h
   ·rename_i hc;simp only[ac,Bool.not_eq_true',beq_iff_eq] at hc;obtain ⟨rfl,rfl⟩:=hc;obtain ⟨l,h1,h2⟩:=h;refine ⟨l,h2,_,hσ,λcx m w own' ρ ρ' lo hρ _ hz hb=>?_,rfl⟩;rw[<-h1];exact QT hz.sub hb
   ·exact h.elim
  ·exact h.elim
 | cF k =>
  simp only[exI] at h;split at h
  ·rename_i es since seen last hσ;exact ⟨(es,since,seen,last),h,_,hσ,λcx m w own' ρ ρ' l hρ _ hz hb=>hb.cut hρ hz.sub trivial,rfl⟩
  ·exact h.elim
 | drop k=>exact ⟨(),h,trivial⟩
 | NY k o z r =>
  simp only[exI] at h;split at h
  ·rename_i cells hσ;split at h
   ·rename_i k' hc;split at h
    ·rename_i ro z' rows hσ';split at h
     ·rename_i hw;simp only[ac,Bool.not_eq_true',beq_iff_eq] at hw;obtain ⟨rfl,rfl⟩:=hw;obtain ⟨l,h1,h2⟩:=h;exact ⟨l,h2,cells,_,hσ,hc,.inl ⟨k',rows,rfl,hσ',h1⟩⟩
     ·exact h.elim
    ·exact h.elim
   ·rename_i tt hc;split at h
    ·rename_i hr;exact ⟨[],h,cells,_,hσ,hc,.inr ⟨rfl,tt,rfl,hr⟩⟩
    ·exact h.elim
   ·exact h.elim
  ·exact h.elim
def AVZ {n:Nat} {it:It} {l:List It} (h:N3 n (it::l)=true):N3 n [it]=true/\N3 n l=true:=by
 cases it with
 | nW k m=>cases m<;>simp[N3] at h ⊢ <;> exact h
 | _=>exact ⟨rfl,h⟩
def MY {n:Nat} {τ:Nat->Option bJ} {π:Nat->Nat->Bool} {sr:List (Option Nat)} {st₀ st:St}:∀ {its:List It} {K:JX.den its->Prop},N3 n its=true->Z9 cD τ π st₀ st its K->∃ y,K y/\yD n τ π sr st₀ st its y
 | [],K,_,h=>⟨(),h,trivial⟩
 | it::l,K,hm,h=>by
  obtain ⟨m1,m2⟩:=AVZ hm;simp only[Z9] at h;obtain ⟨x,h1,h2⟩:=A3T (sr:=sr) m1 h;obtain ⟨y,h3,h4⟩:=MY (sr:=sr) m2 h1;exact ⟨(x,y),h3,h2,h4⟩
def Q9 {n:Nat} {its:List It} {K:JX.den its->Prop} (hm:N3 n its=true) (h:A3U cD st₀ st its K):∃ y,K y/\AO4 n st₀ st its y:=MY hm h
end Go.Pv
