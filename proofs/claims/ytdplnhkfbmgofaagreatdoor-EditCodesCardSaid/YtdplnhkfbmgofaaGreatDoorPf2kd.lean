/-
  The symbolic executor, part d: where ways come together: a state of which only typed data are known.
-/
import Derived.Test.YtdplnhkfbmgofaaGreatDoorPf2kc
set_option linter.defProp false
set_option linter.unusedSimpArgs false
namespace Go.Pv
open Go Go.RowKit
inductive vE (n:Nat):D→Prop
 | p (t:T):vE n (.p t)
 | agg (cs:List D):(∀ i (h:i<cs.length),vE n cs[i])→vE n (.agg cs)
 | cF (cs:List D):(∀ i (h:i<cs.length),vE n cs[i])→vE n (.cF cs)
 | ptr (k i j:Nat):k<n→vE n (.ptr k i j)
 | own (k:Nat):k<n→vE n (.own k)
 | bs (k o l:Nat):k<n→vE n (.bs k o l)
 | map (k:Nat):k<n→vE n (.map k)
 | it (k:Nat):k<n→vE n (.it k)
 | fn (f:FuncId) (a b:List D):(∀ i (h:i<a.length),vE n a[i])→(∀ i (h:i<b.length),vE n b[i])→vE n (.fn f a b)
 | iM (g:Bool) (d:D):vE n d→vE n (.cond g d)
 | mE (d:D):vE n (.cond false d)
 | any:vE n .any
section
variable {w : World} {own own' : Nat → Prop} {ρ ρ' : Nat → Option Loc} {n : Nat}
theorem Rd.S1 (hρ:∀ k l,ρ k=some l→k<n) {d:D} {v:Value} (h:Rd w own ρ d v):vE n d:=by
 induction h with
 | p t x h=>exact .p t
 | agg cs vs hs _ ih=>exact .agg cs ih
 | cF cs vs hs _ ih=>exact .cF cs ih
 | ptr k i j l h=>exact .ptr k i j (hρ _ _ h)
 | own k l h h0 h2 h3=>exact .own k (hρ _ _ h)
 | bJ k l a h h0=>exact .own k (hρ _ _ h)
 | bs k off len l h h2 h3=>exact .bs k off len (hρ _ _ h)
 | map k l h=>exact .map k (hρ _ _ h)
 | it k l h=>exact .it k (hρ _ _ h)
 | fn f fs cs va vb h1 h2 _ _ ih1 ih2=>exact .fn f fs cs ih1 ih2
 | iM d v _ ih=>exact .iM _ d ih
 | mE d=>exact .mE d
 | any v=>exact .any
theorem Rd.cut (hρ:∀ k,k<n→ρ' k=ρ k) (ho:∀ b,own' b→own b) {d:D} {v:Value} (h:Rd w own ρ d v) (hb:vE n d):Rd w own' ρ' d v:=by
 induction h with
 | p t x h=>exact .p t x (h.less ho)
 | agg cs vs hs _ ih=>cases hb with|agg _ hb=>exact .agg cs vs hs fun i hi=>ih i hi (hb i hi)
 | cF cs vs hs _ ih=>cases hb with|cF _ hb=>exact .cF cs vs hs fun i hi=>ih i hi (hb i hi)
 | ptr k i j l h=>cases hb with|ptr _ _ _ hk=>exact .ptr k i j l ((hρ k hk).trans h)
 | own k l h h0 h2 h3=>cases hb with|own _ hk=>exact .own k l ((hρ k hk).trans h) h0 h2 h3
 | bJ k l a h h0=>cases hb with|own _ hk=>exact .bJ k l a ((hρ k hk).trans h) h0
 | bs k off len l h h2 h3=>cases hb with|bs _ _ _ hk=>exact .bs k off len l ((hρ k hk).trans h) h2 h3
 | map k l h=>cases hb with|map _ hk=>exact .map k l ((hρ k hk).trans h)
 | it k l h=>cases hb with|it _ hk=>exact .it k l ((hρ k hk).trans h)
 | fn f fs cs va vb h1 h2 _ _ ih1 ih2=>cases hb with|fn _ _ _ hb1 hb2=>exact .fn f fs cs va vb h1 h2 (fun i hi=>ih1 i hi (hb1 i hi)) (fun i hi=>ih2 i hi (hb2 i hi))
 | iM d v _ ih=>cases hb with|iM _ _ hb=>exact .iM d v (ih hb)
 | mE d=>exact .mE d
 | any v=>exact .any v
end
def xA (n:Nat):aE→Prop
 | .rows _ rs=>∀ i (hi:i<rs.length) j (hj:j<rs[i].length),vE n rs[i][j]
 | .arr _ _ _=>True
 | .map _ es=>∀ i (h:i<es.length),vE n es[i].2
 | .iB _ _=>True
 | .fI m _ _ _=>∀ k,m=some k→k<n
 | .bZ _ _ _ _=>True
 | .held=>True
def lock:aE→aE
 | .rows _ rs=>.rows true rs
 | .arr _ z rows=>.arr true z rows
 | .map _ es=>.map true es
 | x=>x
section
variable {w : World} {own own' : Nat → Prop} {ρ ρ' : Nat → Option Loc} {n : Nat} {l : Loc} {x y : aE}
theorem dQ.S1 (hρ:∀ k l,ρ k=some l→k<n) (h:dQ w own ρ l x):xA n x:=by
 rcases Nat.eq_zero_or_pos (l.L+l.C) with h0|h0
 ·obtain ⟨ro,z,rfl⟩:=h.2 h0;trivial
 ·obtain ⟨o,_,hb⟩:=h.1 h0
  cases hb with
  | rows _ rs c hr hz h' =>
   cases x with
   | rows ro rs'=>cases hr;exact fun i hi j hj=>let ⟨v,_,hv⟩:=h'.cell i j hi hj;hv.S1 hρ
   | arr ro z rows=>trivial
   | _=>simp[bH] at hr
  | map ro es ents h1 h2=>exact fun i hi=>let ⟨e,_,_,_,hv⟩:=h2 i hi;hv.S1 hρ
  | iB s pos=>trivial
  | fI m l' since seen last h'=>exact fun k hk=>by cases hk;exact hρ _ _ h'
  | iW=>exact fun k hk=>by cases hk
  | bZ=>trivial
  | held o=>trivial
theorem PH {rows:List (List T)} {i j:Nat} (hi:i<(aA rows).length) (hj:j<(aA rows)[i].length):∃ t,(aA rows)[i][j] = .p t:=by
 simp only[aA,List.getElem_map];exact ⟨_,rfl⟩
theorem dQ.cut (hρ:∀ k,k<n→ρ' k=ρ k) (ho:∀ b,own' b→own b) (h:dQ w own ρ l x) (hb:xA n x):dQ w own' ρ' l x:=by
 refine ⟨fun h0=>?_,h.2⟩
 obtain ⟨o,ho',hx⟩:=h.1 h0
 refine ⟨o,ho',?_⟩
 cases hx with
 | rows _ rs c hr hz h' =>
  refine .rows x rs c hr hz ⟨h'.size,h'.pos,h'.small,h'.len,h'.FA,h'.width,fun i j hi hj=>?_,h'.one⟩
  obtain ⟨v,h1,h2⟩:=h'.cell i j hi hj
  refine ⟨v,h1,h2.cut hρ ho ?_⟩
  cases x with
  | rows ro rs'=>cases hr;exact hb i hi j hj
  | arr ro z rows=>cases hr;obtain ⟨t,ht⟩:=PH hi hj;rw[ht];exact .p t
  | _=>simp[bH] at hr
 | map ro es ents h1 h2=>exact .map ro es ents h1 fun i hi=>let ⟨e,a,b,c,hv⟩:=h2 i hi;⟨e,a,b,c,hv.cut hρ ho (hb i hi)⟩
 | iB s pos=>exact .iB s pos
 | fI m l' since seen last h'=>exact .fI m l' since seen last ((hρ m (hb m rfl)).trans h')
 | iW=>exact .iW
 | bZ es b since seen last h'=>exact .bZ es b since seen last (h'.less ho)
 | held o=>exact .held o
theorem dQ.yS (hxy:lock x=lock y) (h:dQ w own ρ l x):dQ w own ρ l y:=by
 refine ⟨fun h0=>?_,fun h0=>?_⟩
 ·obtain ⟨o,ho',hx⟩:=h.1 h0
  refine ⟨o,ho',?_⟩
  cases hx with
  | rows _ rs c hr hz h' =>
   cases x with
   | rows ro rs' =>
    cases y<;>simp only[lock,aE.rows.injEq,reduceCtorEq] at hxy
    obtain ⟨_,rfl⟩:=hxy
    exact .rows _ rs c hr (fun _ _ _ e=>by cases e) h'
   | arr ro z rows =>
    cases y<;>simp only[lock,aE.arr.injEq,reduceCtorEq] at hxy
    obtain ⟨_,rfl,rfl⟩:=hxy
    exact .rows _ rs c hr (fun _ _ _ e=>by cases e;exact hz _ _ _ rfl) h'
   | _=>simp[bH] at hr
  | map ro es ents h1 h2 =>
   cases y<;>simp only[lock,aE.map.injEq,reduceCtorEq] at hxy
   obtain ⟨_,rfl⟩:=hxy
   exact .map _ es ents h1 h2
  | iB s pos=>cases y<;>simp only[lock,reduceCtorEq] at hxy;cases hxy;exact .iB s pos
  | fI m l' since seen last h'=>cases y<;>simp only[lock,reduceCtorEq] at hxy;cases hxy;exact .fI m l' since seen last h'
  | iW=>cases y<;>simp only[lock,reduceCtorEq] at hxy;cases hxy;exact .iW
  | bZ es b since seen last h'=>cases y<;>simp only[lock,reduceCtorEq] at hxy;cases hxy;exact .bZ es b since seen last h'
  | held o=>cases y<;>simp only[lock,reduceCtorEq] at hxy;exact .held o
 ·obtain ⟨ro,z,rfl⟩:=h.2 h0
  cases y<;>simp only[lock,aE.arr.injEq,reduceCtorEq] at hxy
  obtain ⟨_,rfl,rfl⟩:=hxy
  exact ⟨_,_,rfl⟩
theorem lW (x:aE):lock (lock x)=lock x:=by cases x<;>rfl
theorem O2 (h:c7 x=false):c7 (lock x)=false:=by cases x<;>first|rfl|exact h
end
inductive It where
 | val (t:Tmp) (ag:Bool) (r:Sy)
 | own (t:Tmp) (z:Nat) (r:Sy)
 | box (k:Nat) (r:Sy)
 | map (k:Nat) (kr:Sy) (ag:Bool) (r:Sy)
 | iB (k:Nat)
 | fI (k:Nat) (m:Option Nat)
 | fix (k:Nat)
 | arr (k:Nat) (z:Nat) (r:Sy)
 | bZ (k:Nat)
 | drop (k:Nat)
 | qI (k o z:Nat) (r:Sy)
abbrev It.den:It→Type
 | .val _ _ r=>r.den
 | .own _ _ r=>List r.den
 | .box _ r=>r.den
 | .map _ kr _ r=>List (kr.den×r.den)
 | .iB _=>ByteArray×Nat
 | .fI _ _=>Nat×List Nat×Nat
 | .fix _=>Unit
 | .arr _ _ r=>List r.den
 | .bZ _=>List (Value×T)×Nat×List Nat×Nat
 | .drop _=>Unit
 | .qI _ _ _ r=>List r.den
abbrev o9.den:List It→Type
 | []=>Unit
 | a::l=>a.den×o9.den l
def HV (kr:Sy) (x:kr.den):Value:=match SA (kr.enc x) with
 | .v x=>x
 | _=>undef
def qJ (kr:Sy) (ag:Bool) (r:Sy) (e:kr.den×r.den):Value×D:=(HV kr e.1,.p (bW ag r e.2))
def AN (e:Value×D):Value×D:=match e.2 with
 | .p t=>(e.1,.p (t.canon 1))
 | _=>e
def S9 (kr:Sy) (ag:Bool) (r:Sy) (es:List (Value×D)) (K:List (kr.den×r.den)→Prop):Prop:=∃ l,es.map AN=l.map (qJ kr ag r)∧K l
def TB (n:Nat) (seen:List Nat) (A:Prop) (B:Nat→Prop):Prop:=(cR n seen=[]→A)∧∀ i,i∈cR n seen→B i
def U9 (kr:Sy) (ag:Bool) (r:Sy) (es:List (Value×D)) (seen:List Nat) (K:kr.den→r.den→Prop):Prop:=∃ i x y,seen.getLast? = some i∧es[i]? = some (qJ kr ag r (x,y))∧K x y
def UC (x y:aE) (K:Prop):Prop:=x=y∧K
def S2 (A B:Prop):Prop:=A∧B
structure gN extends Combs where
 S8:(kr:Sy)→(ag:Bool)→(r:Sy)→List (Value×D)→(List (kr.den×r.den)→Prop)→Prop
 each:Nat→List Nat→Prop→(Nat→Prop)→Prop
 TM:(kr:Sy)→(ag:Bool)→(r:Sy)→List (Value×D)→List Nat→(kr.den→r.den→Prop)→Prop
 same:aE→aE→Prop→Prop
 both:Prop→Prop→Prop
def cO:gN:={ gJ with S8:=S9,each:=TB,TM:=U9,same:=UC,both:=S2 }
section
variable (C : gN)
def HB:(r:Sy)→List T→(r.den→Prop)→Prop
 | .int k,row,K=>match row with
  | [.v (.int k' n)]=>match decide (k'=k) with
   | true=>K n
   | false=>C.bad 301
  | _=>C.bad 302
 | .bool,row,K=>match row with
  | [.v (.bool b)]=>K b
  | _=>C.bad 303
 | .str,row,K=>match row with
  | [.v (.string s)]=>K s
  | _=>C.bad 304
 | .any,row,K=>match row with
  | [x]=>K x
  | _=>C.bad 305
 | .pr a b,row,K=>HB a (row.take a.w) fun x=>HB b (row.drop a.w) fun y=>K (x,y)
 | .li r,row,K=>match row with
  | [.sl _ rows]=>C.dec r rows K
  | [.v (.slice none 0 0)]=>K []
  | [.ne _]=>K []
  | _=>C.bad 306
def jS (π:Nat→Nat→Bool) (k:Nat):Nat→List D→List D
 | _,[]=>[]
 | i,c::l=>(match π k i with
  | true=>.p (.sl false [])
  | false=>c)::jS π k (i+1) l
def UG (τ:Nat→Option aE):Nat→List D→Nat
 | i,[]=>31600+i
 | i,c::l=>match dJ τ 4 c with
  | some _=>UG τ (i+1) l
  | none=>3160000+i*100+(match c with
   | .ptr _ _ _=>10
   | .own k=>match τ k with
    | some (.arr _ _ _)=>21
    | some _=>22
    | none=>20
   | .bs _ _ _=>30
   | .map _=>40
   | .it _=>50
   | .fn _ _ _=>60
   | .cond _ _=>70
   | .any=>80
   | _=>90)
def I3 (τ:Nat→Option aE) (π:Nat→Nat→Bool) (st₀ st:St):(it:It)→(it.den→Prop)→Prop
 | .val t ag r,K=>match dJ τ 4 (st.s t),ag with
  | some (.agg cs),true=>HB C r cs K
  | some (.v (.agg vs)),true=>HB C r (vs.toList.map .v) K
  | some x,false=>HB C r [x] K
  | _,_=>C.bad 311
 | .own t z r,K=>match st.s t with
  | .own k=>match st.σ k with
   | some (.arr ro z' rows)=>match !ro&&z' == z with
    | true=>C.dec r rows K
    | false=>C.bad 312
   | _=>C.bad 313
  | .p tt=>match cE tt with
   | some (true,[])=>K []
   | _=>C.bad 314
  | _=>C.bad 315
 | .box k r,K=>match st.σ k with
  | some (.rows ro [cells])=>match ro,(jS π k 0 cells).mapM (dJ τ 4) with
   | false,some ts=>HB C r ts K
   | _,_=>C.bad (UG τ 0 cells)
  | _=>C.bad 317
 | .map k kr ag r,K=>match st.σ k with
  | some (.map ro es)=>match ro with
   | false=>C.S8 kr ag r es K
   | true=>C.bad 318
  | _=>C.bad 319
 | .iB k,K=>match st.σ k with
  | some (.iB s pos)=>K (s,pos)
  | _=>C.bad 320
 | .fI k m,K=>match st.σ k with
  | some (.fI m' since seen last)=>match decide (m'=m) with
   | true=>K (since,seen,last)
   | false=>C.bad 321
  | _=>C.bad 322
 | .fix k,K=>match st.σ k,st₀.σ k with
  | some x,some y=>match c7 x with
   | true=>C.same x y (K ())
   | false=>C.bad 324
  | _,_=>C.bad 325
 | .arr k z r,K=>match st.σ k with
  | some (.arr ro z' rows)=>match !ro&&z' == z with
   | true=>C.dec r rows K
   | false=>C.bad 326
  | _=>C.bad 327
 | .bZ k,K=>match st.σ k with
  | some (.bZ es since seen last)=>K (es,since,seen,last)
  | _=>C.bad 323
 | .drop _,K=>K ()
 | .qI k o z r,K=>match st.σ k with
  | some (.rows false [cells])=>match cells[o]? with
   | some (.own k')=>match st.σ k' with
    | some (.arr ro z' rows)=>match !ro&&z' == z with
     | true=>C.dec r rows K
     | false=>C.bad 332
    | _=>C.bad 333
   | some (.p tt)=>match cE tt with
    | some (true,[])=>K []
    | _=>C.bad 334
   | _=>C.bad 335
  | _=>C.bad 336
def x6 (τ:Nat→Option aE) (π:Nat→Nat→Bool) (st₀ st:St):(its:List It)→(o9.den its→Prop)→Prop
 | [],K=>K ()
 | it::l,K=>I3 C τ π st₀ st it fun x=>x6 τ π st₀ st l fun y=>K (x,y)
end
def l7 (n:Nat):(its:List It)→o9.den its→Nat→Nat→D
 | [],_,_,_=>.any
 | .val t ag r::l,y,j,i=>match i == t with
  | true=>.p (bW ag r y.1)
  | false=>l7 n l y.2 j i
 | .own t _ _::l,y,j,i=>match i == t with
  | true=>.own (n+j)
  | false=>l7 n l y.2 (j+1) i
 | .box _ _::l,y,j,i=>l7 n l y.2 j i
 | .map _ _ _ _::l,y,j,i=>l7 n l y.2 j i
 | .iB _::l,y,j,i=>l7 n l y.2 j i
 | .fI _ _::l,y,j,i=>l7 n l y.2 j i
 | .fix _::l,y,j,i=>l7 n l y.2 j i
 | .arr _ _ _::l,y,j,i=>l7 n l y.2 j i
 | .bZ _::l,y,j,i=>l7 n l y.2 j i
 | .drop _::l,y,j,i=>l7 n l y.2 j i
 | .qI _ _ _ _::l,y,j,i=>l7 n l y.2 (j+1) i
def eT (f:Nat→List D→List D) (st₀:St):(its:List It)→o9.den its→Nat→Option aE
 | [],_,_=>none
 | .val _ _ _::l,y,i=>eT f st₀ l y.2 i
 | .own _ _ _::l,y,i=>eT f st₀ l y.2 i
 | .box k r::l,y,i=>match i == k with
  | true=>some (.rows false [f k ((r.enc y.1).map .p)])
  | false=>eT f st₀ l y.2 i
 | .map k kr ag r::l,y,i=>match i == k with
  | true=>some (.map false (y.1.map (qJ kr ag r)))
  | false=>eT f st₀ l y.2 i
 | .iB k::l,y,i=>match i == k with
  | true=>some (.iB y.1.1 y.1.2)
  | false=>eT f st₀ l y.2 i
 | .fI k m::l,y,i=>match i == k with
  | true=>some (.fI m y.1.1 y.1.2.1 y.1.2.2)
  | false=>eT f st₀ l y.2 i
 | .fix k::l,y,i=>match i == k with
  | true=>st₀.σ k
  | false=>eT f st₀ l y.2 i
 | .arr k z r::l,y,i=>match i == k with
  | true=>some (.arr false z (y.1.map r.enc))
  | false=>eT f st₀ l y.2 i
 | .bZ k::l,y,i=>match i == k with
  | true=>some (.bZ y.1.1 y.1.2.1 y.1.2.2.1 y.1.2.2.2)
  | false=>eT f st₀ l y.2 i
 | .drop k::l,y,i=>match i == k with
  | true=>none
  | false=>eT f st₀ l y.2 i
 | .qI _ _ _ _::l,y,i=>eT f st₀ l y.2 i
def l6:(its:List It)→o9.den its→Nat→Option aE
 | [],_,_=>none
 | .own _ z r::l,y,j=>match j with
  | 0=>some (.arr false z (y.1.map r.enc))
  | j+1=>l6 l y.2 j
 | .qI _ _ z r::l,y,j=>match j with
  | 0=>some (.arr false z (y.1.map r.enc))
  | j+1=>l6 l y.2 j
 | .val _ _ _::l,y,j=>l6 l y.2 j
 | .box _ _::l,y,j=>l6 l y.2 j
 | .map _ _ _ _::l,y,j=>l6 l y.2 j
 | .iB _::l,y,j=>l6 l y.2 j
 | .fI _ _::l,y,j=>l6 l y.2 j
 | .fix _::l,y,j=>l6 l y.2 j
 | .arr _ _ _::l,y,j=>l6 l y.2 j
 | .bZ _::l,y,j=>l6 l y.2 j
 | .drop _::l,y,j=>l6 l y.2 j
def lK (st:St) (k o:Nat):Option Nat:=match st.σ k with
 | some (.rows false [cells])=>match cells[o]? with
  | some (.own k')=>some k'
  | _=>none
 | _=>none
def gQ:List It→Nat→Nat→Bool
 | [],_,_=>false
 | .qI k o _ _::l,k',o'=>(k' == k&&o' == o)||gQ l k' o'
 | _::l,k',o'=>gQ l k' o'
def uN (n:Nat):List It→Nat→Nat→List D→List D
 | [],_,_,row=>row
 | .own _ _ _::l,j,k,row=>uN n l (j+1) k row
 | .qI k' o _ _::l,j,k,row=>match k == k' with
  | true=>(uN n l (j+1) k row).set o (.own (n+j))
  | false=>uN n l (j+1) k row
 | _::l,j,k,row=>uN n l j k row
def dM:List It→St→List (Option Nat)
 | [],_=>[]
 | .own t _ _::l,st=>(match st.s t with
  | .own k=>some k
  | _=>none)::dM l st
 | .val _ _ _::l,st=>dM l st
 | .box _ _::l,st=>dM l st
 | .map _ _ _ _::l,st=>dM l st
 | .iB _::l,st=>dM l st
 | .fI _ _::l,st=>dM l st
 | .fix _::l,st=>dM l st
 | .arr _ _ _::l,st=>dM l st
 | .bZ _::l,st=>dM l st
 | .drop _::l,st=>dM l st
 | .qI k o _ _::l,st=>lK st k o::dM l st
def kF:List It→Nat
 | []=>0
 | .own _ _ _::l=>kF l+1
 | .val _ _ _::l=>kF l
 | .box _ _::l=>kF l
 | .map _ _ _ _::l=>kF l
 | .iB _::l=>kF l
 | .fI _ _::l=>kF l
 | .fix _::l=>kF l
 | .arr _ _ _::l=>kF l
 | .bZ _::l=>kF l
 | .drop _::l=>kF l
 | .qI _ _ _ _::l=>kF l+1
theorem dN:∀ (its:List It) (st:St),(dM its st).length=kF its
 | [],_=>rfl
 | .own _ _ _::l,st=>by simp only[dM,kF,List.length_cons,dN l st]
 | .val _ _ _::l,st=>dN l st
 | .box _ _::l,st=>dN l st
 | .map _ _ _ _::l,st=>dN l st
 | .iB _::l,st=>dN l st
 | .fI _ _::l,st=>dN l st
 | .fix _::l,st=>dN l st
 | .arr _ _ _::l,st=>dN l st
 | .bZ _::l,st=>dN l st
 | .drop _::l,st=>dN l st
 | .qI _ _ _ _::l,st=>by simp only[dM,kF,List.length_cons,dN l st]
def mD:List It→Nat→Bool
 | [],_=>false
 | .box k _::l,i=>i == k||mD l i
 | .map k _ _ _::l,i=>i == k||mD l i
 | .iB k::l,i=>i == k||mD l i
 | .fI k _::l,i=>i == k||mD l i
 | .fix k::l,i=>i == k||mD l i
 | .arr k _ _::l,i=>i == k||mD l i
 | .bZ k::l,i=>i == k||mD l i
 | .drop k::l,i=>i == k||mD l i
 | .qI _ _ _ _::l,i=>mD l i
 | .val _ _ _::l,i=>mD l i
 | .own _ _ _::l,i=>mD l i
def rH (n:Nat):List It→Bool
 | []=>true
 | .fI _ (some m)::l=>decide (m<n)&&rH n l
 | _::l=>rH n l
def BT:aE→Bool
 | .iB _ _=>false
 | .fI _ _ _ _=>false
 | .bZ _ _ _ _=>false
 | _=>true
def BK:List (Option Nat)→Nat→Bool
 | [],_=>false
 | some k::l,i=>i == k||BK l i
 | none::l,i=>BK l i
def kept (its:List It) (st₀:St) (k:Nat):Bool:=decide (k<st₀.n)&&match st₀.σ k with
 | some x=>!c7 x||(!mD its k && !BK (dM its st₀) k&&BT x)
 | none=>false
def apart:List (Option Nat)→Bool
 | []=>true
 | some k::l=>!BK l k&&apart l
 | none::l=>apart l
def qE (its:List It) (st₀ st:St):Bool:=apart (dM its st)&&(dM its st).all (fun x=>match x with
 | some k=>!kept its st₀ k && !mD its k
 | none=>true)&&rH st₀.n its
def eN:List It→Nat→Bool
 | [],_=>false
 | .drop k::l,i=>i == k||eN l i
 | .box k _::l,i=>!(i == k)&&eN l i
 | .map k _ _ _::l,i=>!(i == k)&&eN l i
 | .iB k::l,i=>!(i == k)&&eN l i
 | .fI k _::l,i=>!(i == k)&&eN l i
 | .fix k::l,i=>!(i == k)&&eN l i
 | .arr k _ _::l,i=>!(i == k)&&eN l i
 | .bZ k::l,i=>!(i == k)&&eN l i
 | .val _ _ _::l,i=>eN l i
 | .own _ _ _::l,i=>eN l i
 | .qI _ _ _ _::l,i=>eN l i
def KS (its:List It) (st₀ st:St) (k:Nat):Bool:=(decide (st₀.n≤k)||(!kept its st₀ k&&eN its k)) && !BK (dM its st) k
def EZ (its:List It) (st₀ st:St):Nat→Option aE:=fun k=>match KS its st₀ st k with
 | true=>st.σ k
 | false=>none
def KB (C:gN) (st₀ st:St) (its:List It) (K:o9.den its→Prop):Prop:=x6 C (EZ its st₀ st) (gQ its) st₀ st its K
def mI (its:List It) (A:Nat→Bool) (st₀:St) (y:o9.den its):St :=
 ⟨fun i=>match A i with
  | true=>l7 st₀.n its y 0 i
  | false=>st₀.s i,
  fun k=>match decide (k<st₀.n) with
  | true=>match kept its st₀ k with
   | true=>(st₀.σ k).map lock
   | false=>eT (uN st₀.n its 0) st₀ its y k
  | false=>l6 its y (k-st₀.n),
  st₀.n+kF its⟩
def vM (its:List It) (st₀:St):St:=⟨st₀.s,fun k=>match kept its st₀ k with
 | true=>(st₀.σ k).map lock
 | false=>st₀.σ k,st₀.n⟩
def zP (its:List It) (st₀ st:St):St:=⟨st.s,fun k=>match kept its st₀ k with
 | true=>st₀.σ k
 | false=>st.σ k,st.n⟩
def Wk (a b:List T):Prop:=a.length=b.length∧∀ (i:Nat) (x y:T),a[i]? = some x→b[i]? = some y→∀ (w:World) (own:Nat→Prop) (v:Value),aX w own x v→aX w own y v
theorem Wk.refl (a:List T):Wk a a:=⟨rfl,fun i x y hx hy=>by rw[hx] at hy;cases hy;exact fun _ _ _ h=>h⟩
theorem MJ {w:World} {own:Nat→Prop} {f:Bool} {rows:List (List T)} {v:Value} (h:aX w own (.sl f rows) v):aX w own (.sl false (dW rows)) v:=by
 cases h with
 | bD _ a cap hf hn=>exact .bD false a cap (by simp) hn
 | sl _ _ sz b o cap g h1 h2 h3 h4 h45 h5 h6 h7 h8 =>
  have hl:(dW rows).length=rows.length:=by simp[dW]
  rw[←hl]
  refine .sl false (dW rows) sz b o cap g (by omega) (by omega) (by simp) h4 h45 (fun r hr=>?_) h6 (fun i j hi hj=>h7 i j (by omega) hj) (fun i j hi hj=>?_)
  ·simp only[dW,List.mem_map] at hr
   obtain ⟨r',hr',rfl⟩:=hr
   simpa using h5 r' hr'
  ·have hi':i<rows.length:=by omega
   have hr:(dW rows)[i]=rows[i].map (T.canon 0):=by simp[dW]
   have hj':j<rows[i].length:=by rw[hr] at hj;simpa using hj
   have:(dW rows)[i][j]=T.canon 0 rows[i][j]:=by simp[dW]
   rw[this]
   exact (h8 i j hi' hj').canon 0
theorem jC:∀ {r:Sy} {row:List T} {K:r.den→Prop},HB cO r row K→∃ y,K y∧Wk row (r.enc y)
 | .int k,row,K,h=>by
  simp only[HB] at h
  split at h
  ·split at h
   ·rename_i hk
    have hk:=of_decide_eq_true hk
    subst hk
    exact ⟨_,h,Wk.refl _⟩
   ·exact h.elim
  ·exact h.elim
 | .bool,row,K,h=>by
  simp only[HB] at h
  split at h
  ·exact ⟨_,h,Wk.refl _⟩
  ·exact h.elim
 | .str,row,K,h=>by
  simp only[HB] at h
  split at h
  ·exact ⟨_,h,Wk.refl _⟩
  ·exact h.elim
 | .any,row,K,h=>by
  simp only[HB] at h
  split at h
  ·exact ⟨_,h,Wk.refl _⟩
  ·exact h.elim
 | .pr a b,row,K,h=>by
  simp only[HB] at h
  obtain ⟨x,h1,w1⟩:=jC h
  obtain ⟨y,h2,w2⟩:=jC h1
  refine ⟨(x,y),h2,?_,fun i u v hu hv=>?_⟩
  ·have l1:=w1.1
   have l2:=w2.1
   simp only[List.length_take,Sy.bX,List.length_drop] at l1 l2
   simp only[Sy.enc,List.length_append,Sy.bX]
   omega
  ·have l1:=w1.1
   simp only[List.length_take,Sy.bX] at l1
   simp only[Sy.enc] at hv
   by_cases hi:i<a.w
   ·rw[List.getElem?_append_left (by rw[Sy.bX];exact hi)] at hv
    exact w1.2 i u v (by rw[List.getElem?_take];simp[hi,hu]) hv
   ·rw[List.getElem?_append_right (by rw[Sy.bX];omega),Sy.bX] at hv
    exact w2.2 (i-a.w) u v (by rw[List.getElem?_drop];rw[show a.w+(i-a.w)=i by omega];exact hu) hv
 | .li r,row,K,h=>by
  simp only[HB] at h
  have one:∀ (u:T) (l:List r.den),(∀ w own v,aX w own u v→aX w own (.sl false (l.map r.enc)) v)→Wk [u] (Sy.enc (.li r) l):=by
   intro u l hw
   refine ⟨rfl,fun i x y hx hy=>?_⟩
   match i with
   | 0=>simp at hx;simp only[Sy.enc] at hy;simp at hy;subst hx;subst hy;exact hw
   | i+1=>simp at hx
  split at h
  ·rename_i f rows
   obtain ⟨l,h1,h2⟩:=h
   exact ⟨l,h2,one _ _ fun w own v hv=>by rw[←h1];exact MJ hv⟩
  ·refine ⟨[],h,one _ _ fun w own v hv=>?_⟩
   cases hv;exact .bD false none 0 (by simp) (by simp)
  ·refine ⟨[],h,one _ _ fun w own v hv=>?_⟩
   cases hv with
   | ne _ a cap hf=>exact .bD false (some a) cap (by simp) (by simp)
  ·exact h.elim
def vO:Loc:=⟨0,0,0,0,0⟩
structure GR (τ:Nat→Option aE) (st:St) (cx:Cx) (ρ:Nat→Option Loc) (m:Nat) (w:World) (own':Nat→Prop):Prop where
 inv:Inv cx ρ st.σ m w
 sub:∀ b,own' b→Own cx ρ st.σ b
 UZ:∀ k x,τ k=some x→st.σ k=some x
 VV:∀ k x l,τ k=some x→ρ k=some l→0<l.L+l.C→¬ own' l.aJ
theorem GR.dJ {τ:Nat→Option aE} {st:St} {cx:Cx} {ρ:Nat→Option Loc} {m:Nat} {w:World} {own':Nat→Prop} (h:GR τ st cx ρ m w own') {k:Nat} {d:D} {t:T} {v:Value} (hd:Rd w (Own cx ρ st.σ) ρ d v) (hf:Go.Pv.dJ τ k d=some t):aX w own' t v :=
 yC h.inv h.sub h.UZ h.VV k hd hf
structure mB (n:Nat) (τ:Nat→Option aE) (sr:List (Option Nat)) (st:St) (x y:aE):Prop where
 ok:∀ (cx:Cx) (m:Nat) (w:World) (own':Nat→Prop) (ρ ρ':Nat→Option Loc) (l:Loc),(∀ k,k<n→ρ' k=ρ k)→(∀ j src,sr[j]? = some src→ρ' (n+j)=match src with
  | some k=>ρ k
  | none=>some vO)→GR τ st cx ρ m w own'→dQ w (Own cx ρ st.σ) ρ l x→dQ w own' ρ' l y
 wr:c7 x=true
def SO (n:Nat) (τ:Nat→Option aE) (π:Nat→Nat→Bool) (sr:List (Option Nat)) (st₀ st:St):(it:It)→it.den→Prop
 | .val t ag r,y=>∀ cx m ρ w own' v,GR τ st cx ρ m w own'→Rd w (Own cx ρ st.σ) ρ (st.s t) v→aX w own' (bW ag r y) v
 | .own t z r,y=>(∃ k rows,st.s t = .own k∧st.σ k=some (.arr false z rows)∧dW rows=List.map r.enc y)∨(y=([]:List r.den)∧∃ tt,st.s t = .p tt∧cE tt=some (true,[]))
 | .box k r,y=>∃ cells ts,st.σ k=some (.rows false [cells])∧(jS π k 0 cells).mapM (dJ τ 4)=some ts∧Wk ts (r.enc y)
 | .map k kr ag r,y=>∃ x,st.σ k=some x∧mB n τ sr st x (.map false (List.map (qJ kr ag r) y))
 | .iB k,y=>∃ x,st.σ k=some x∧mB n τ sr st x (.iB y.1 y.2)
 | .fI k m,y=>∃ x,st.σ k=some x∧mB n τ sr st x (.fI m y.1 y.2.1 y.2.2)
 | .fix k,_=>∃ x,st.σ k=some x∧st₀.σ k=some x∧c7 x=true
 | .arr k z r,y=>∃ x,st.σ k=some x∧mB n τ sr st x (.arr false z (List.map r.enc y))
 | .bZ k,y=>∃ x,st.σ k=some x∧mB n τ sr st x (.bZ y.1 y.2.1 y.2.2.1 y.2.2.2)
 | .drop _,_=>True
 | .qI k o z r,y=>∃ cells c,st.σ k=some (.rows false [cells])∧cells[o]? = some c∧((∃ k' rows,c = .own k'∧st.σ k'=some (.arr false z rows)∧dW rows=List.map r.enc y)∨(y=([]:List r.den)∧∃ tt,c = .p tt∧cE tt=some (true,[])))
def kI (n:Nat) (τ:Nat→Option aE) (π:Nat→Nat→Bool) (sr:List (Option Nat)) (st₀ st:St):(its:List It)→o9.den its→Prop
 | [],_=>True
 | it::l,y=>SO n τ π sr st₀ st it y.1∧kI n τ π sr st₀ st l y.2
def E5 (n:Nat) (st₀ st:St) (its:List It) (y:o9.den its):Prop:=kI n (EZ its st₀ st) (gQ its) (dM its st) st₀ st its y
theorem jT {π:Nat→Nat→Bool} {k:Nat}:∀ {cells:List D} {i:Nat},(jS π k i cells).length=cells.length
 | [],_=>rfl
 | c::l,i=>by simp only[jS,List.length_cons,jT (cells:=l)]
theorem sL {π:Nat→Nat→Bool} {k:Nat}:∀ {cells:List D} {i q:Nat} (h:q<cells.length),π k (i+q)=false→(jS π k i cells)[q]'(by rw[jT];exact h)=cells[q]
 | c::l,i,0,h,hp=>by
  simp only[jS,List.getElem_cons_zero]
  rw[show π k i=false from hp]
 | c::l,i,q+1,h,hp=>by
  simp only[jS,List.getElem_cons_succ]
  exact sL (by simpa using h) (by rw[←hp];congr 1;omega)
structure JN (π:Nat→Nat→Bool) (n k:Nat) (sr:List (Option Nat)) (cells:List D) (base row:List D):Prop where
 len:row.length=base.length
 at_:∀ i c,row[i]? = some c→(π k i=false∧base[i]? = some c)∨(π k i=true∧∃ j src,c = .own (n+j)∧sr[j]? = some src∧((∃ k',cells[i]? = some (.own k')∧src=some k')∨(src=none∧∃ tt,cells[i]? = some (.p tt)∧cE tt=some (true,[]))))
theorem B8 {w:World} {own:Nat→Prop} {tt:T} {v:Value} (h:aX w own tt v) (hr:cE tt=some (true,[])):∃ a,v = .slice a 0 0:=by
 unfold cE at hr
 split at hr
 ·cases hr
  cases h with
  | bD _ a cap hf hn=>rw[hf rfl];exact ⟨a,rfl⟩
  | sl _ _ sz b o cap g h1 h2 h3 h4 h45 h5 h6 h7 h8=>have:=h3 rfl;simp at this;subst this;exact ⟨_,rfl⟩
 ·cases hr;cases h;exact ⟨none,rfl⟩
 ·cases hr
  cases h with
  | ne _ a cap hf=>exact ⟨some a,by rw[hf rfl]⟩
 ·cases hr
theorem zQ {w:World} {own:Nat→Prop} {a b:List T} (h:Wk a b) {v:Value} (hv:aX w own (.agg a) v):aX w own (.agg b) v:=by
 cases hv with
 | agg _ vs h1 h2 =>
  refine .agg b vs (by rw[h1,h.1]) fun i hi=>?_
  have hi':i<a.length:=by rw[h.1];exact hi
  exact h.2 i a[i] b[i] (by simp[hi']) (by simp[hi]) _ _ _ (h2 i hi')
theorem MY {w:World} {own:Nat→Prop} {x:T} {b:List T} (h:Wk [x] b) {v:Value} (hv:aX w own x v):aX w own (SA b) v:=by
 have hl:=h.1
 match b,hl with
 | [y],_=>exact h.2 0 x y rfl rfl _ _ _ hv
theorem DA {n k:Nat} {τ:Nat→Option aE} {π:Nat→Nat→Bool} {sr:List (Option Nat)} {st:St} {cells:List D} {ts ts':List T} {row:List D} (hm:(jS π k 0 cells).mapM (dJ τ 4)=some ts) (h:Wk ts ts') (hw:JN π n k sr cells (ts'.map .p) row):mB n τ sr st (.rows false [cells]) (.rows false [row]):=by
 refine ⟨fun cx m w own' ρ ρ' l hρ hs hzz hb=>?_,rfl⟩
 obtain ⟨m1,m2⟩:=mapM_some_length hm
 rw[jT] at m1
 refine ⟨fun h0=>?_,fun h0=>by obtain ⟨_,_,e⟩:=hb.2 h0;cases e⟩
 obtain ⟨o,h1,h2⟩:=hb.1 h0
 refine ⟨o,h1,?_⟩
 have hlen:row.length=cells.length:=by rw[hw.len,List.length_map,←h.1,m1]
 cases h2 with
 | rows _ rs c hr hz h2 =>
  cases hr
  refine .rows _ [row] c rfl (fun _ _ _ e=>by cases e) ⟨h2.size,h2.pos,h2.small,h2.len,h2.FA,fun r hr=>?_,fun i j hi hj=>?_,h2.one⟩
  ·have:=h2.width cells (by simp)
   simp only[List.mem_singleton] at hr
   subst hr
   rw[hlen]
   exact this
  ·have hi0:i=0:=by simpa using hi
   subst hi0
   simp only[List.getElem_cons_zero] at hj
   have hj2:j<cells.length:=by omega
   have hj':j<ts.length:=by omega
   obtain ⟨v,e1,e2⟩:=h2.cell 0 j (by simp) (by simpa using hj2)
   refine ⟨v,e1,?_⟩
   simp only[List.getElem_cons_zero] at e2 ⊢
   rcases hw.at_ j row[j] (by simp[hj]) with ⟨p1,p2⟩|⟨p1,q,src,p2,p3,p4⟩
   ·have e3:row[j] = .p (ts'[j]'(by rw[←h.1];exact hj')):=by
     have:=List.getElem?_eq_some_iff.1 p2
     obtain ⟨_,g⟩:=this
     rw[←g,List.getElem_map]
    rw[e3]
    refine .p _ _ (h.2 j ts[j] _ (by simp[hj']) (by simp[h.1 ▸ hj']) _ _ _ (hzz.dJ (k:=4) e2 ?_))
    have:=m2 j (by rw[jT];exact hj2) hj'
    rw[sL hj2 (by rw[Nat.zero_add];exact p1)] at this
    exact this
   ·rw[p2]
    have h3:=hs q src p3
    have hc:cells[j]? = some cells[j]:=by simp[hj2]
    rcases p4 with ⟨k',g1,rfl⟩|⟨rfl,tt,g1,g2⟩
    ·rw[hc] at g1
     rw[Option.some.inj g1] at e2
     simp only at h3
     cases e2 with
     | own _ lo hl hL h4 h5=>exact .own _ lo (h3.trans hl) hL h4 h5
     | bJ _ lo a hl hL=>exact .bJ _ lo a (h3.trans hl) hL
    ·rw[hc] at g1
     rw[Option.some.inj g1] at e2
     cases e2 with
     | p _ _ e2 =>
      obtain ⟨a,rfl⟩:=B8 e2 g2
      exact .bJ _ vO a h3 rfl
theorem OA {w:World} {own:Nat→Prop} {ρ:Nat→Option Loc} {e:Value×D} {v:Value} (h:Rd w own ρ e.2 v):Rd w own ρ (AN e).2 v:=by
 unfold AN
 split
 ·rename_i t ht
  rw[ht] at h
  cases h with
  | p _ _ h=>exact .p _ _ (h.canon 1)
 ·exact h
theorem J0 (e:Value×D):(AN e).1=e.1:=by unfold AN;split<;>rfl
theorem GZ {n:Nat} {τ:Nat→Option aE} {sr:List (Option Nat)} {st:St} {es:List (Value×D)} {kr:Sy} {ag:Bool} {r:Sy} {l:List (kr.den×r.den)} (h:es.map AN=l.map (qJ kr ag r)):mB n τ sr st (.map false es) (.map false (l.map (qJ kr ag r))):=by
 refine ⟨fun cx m w own' ρ ρ' lo hρ _ hz hb=>?_,rfl⟩
 refine ⟨fun h0=>?_,fun h0=>by obtain ⟨_,_,e⟩:=hb.2 h0;cases e⟩
 obtain ⟨o,h1,h2⟩:=hb.1 h0
 refine ⟨o,h1,?_⟩
 cases h2 with
 | rows _ rs c hr hz h2=>simp[bH] at hr
 | map _ _ ents e1 e2 =>
  have hlen:es.length=(l.map (qJ kr ag r)).length:=by rw[←h];simp
  rw[hlen]
  refine .map false _ ents (by omega) fun i hi=>?_
  have hi':i<es.length:=by omega
  obtain ⟨e,g1,g2,g3,g4⟩:=e2 i hi'
  have he:(l.map (qJ kr ag r))[i]=AN es[i]:=by
   have:(es.map AN)[i]'(by simpa using hi')=(l.map (qJ kr ag r))[i]:=by congr 1
   rw[←this];simp
  have hp:∃ t,(l.map (qJ kr ag r))[i].2 = .p t:=by simp only[List.getElem_map];exact ⟨_,rfl⟩
  refine ⟨e,g1,?_,g3,?_⟩
  ·rw[he,J0];exact g2
  ·have g5:=OA g4
   rw[←he] at g5
   obtain ⟨t,ht⟩:=hp
   rw[ht] at g5 ⊢
   cases g5 with
   | p _ _ g5=>exact .p _ _ (g5.less hz.sub)
theorem sO {w:World} {own own':Nat→Prop} {ρ ρ':Nat→Option Loc} {l:Loc} {ro:Bool} {z:Nat} {rows:List (List T)} (ho:∀ b,own' b→own b) (h:dQ w own ρ l (.arr ro z rows)):dQ w own' ρ' l (.arr ro z (dW rows)):=by
 refine ⟨fun h0=>?_,fun h0=>?_⟩
 ·obtain ⟨o,h1,h2⟩:=h.1 h0
  refine ⟨o,h1,?_⟩
  cases h2 with
  | rows _ rs c hr hz h2 =>
   cases hr
   have hl:(aA (dW rows)).length=(aA rows).length:=by simp[aA,dW]
   refine .rows _ (aA (dW rows)) c rfl (fun _ _ _ e=>by cases e;exact hz _ _ _ rfl) ⟨h2.size,h2.pos,by have:=h2.small;omega,by have:=h2.len;omega,by have:=h2.FA;omega,fun r hr=>?_,fun i j hi hj=>?_,h2.one⟩
   ·simp only[aA,dW,List.map_map,List.mem_map,Function.comp] at hr
    obtain ⟨r',hr',rfl⟩:=hr
    have:=h2.width (r'.map .p) (by simp only[aA,List.mem_map];exact ⟨r',hr',rfl⟩)
    simpa using this
   ·have hi':i<rows.length:=by simpa [aA,dW] using hi
    have e1:(aA (dW rows))[i]=(rows[i].map (T.canon 0)).map .p:=by simp[aA,dW]
    have hj':j<rows[i].length:=by rw[e1] at hj;simpa using hj
    have e3:(aA rows)[i]'(by simpa using hi')=rows[i].map .p:=by simp[aA]
    obtain ⟨v,g1,g2⟩:=h2.cell i j (by simpa using hi') (by rw[e3];simpa using hj')
    refine ⟨v,g1,?_⟩
    have e2:(aA (dW rows))[i][j] = .p (T.canon 0 rows[i][j]):=by simp[aA,dW]
    have e4:((aA rows)[i]'(by simpa using hi'))[j]'(by rw[e3];simpa using hj') = .p rows[i][j]:=by simp[aA]
    rw[e4] at g2
    rw[e2]
    cases g2 with
    | p _ _ g2=>exact .p _ _ ((g2.canon 0).less ho)
 ·obtain ⟨_,_,e⟩:=h.2 h0
  cases e
  exact ⟨_,_,rfl⟩
theorem KA {n:Nat} {τ:Nat→Option aE} {π:Nat→Nat→Bool} {sr:List (Option Nat)} {st₀ st:St} {it:It} {K:it.den→Prop} (hm:rH n [it]=true) (h:I3 cO τ π st₀ st it K):∃ y,K y∧SO n τ π sr st₀ st it y:=by
 cases it with
 | val t ag r =>
  simp only[I3] at h
  split at h
  ·rename_i cs hs
   obtain ⟨y,h1,h2⟩:=jC h
   exact ⟨y,h1,fun cx m ρ w own' v hz hv=>zQ h2 (hz.dJ hv hs)⟩
  ·rename_i vs hs
   obtain ⟨y,h1,h2⟩:=jC h
   refine ⟨y,h1,fun cx m ρ w own' v hz hv=>?_⟩
   have hv:=hz.dJ hv hs
   cases hv
   exact zQ h2 (.agg _ _ (bA.vs (R:=aX w own') (g:=T.v) .v _).1 (bA.vs (R:=aX w own') (g:=T.v) .v _).2)
  ·rename_i x hs
   obtain ⟨y,h1,h2⟩:=jC h
   exact ⟨y,h1,fun cx m ρ w own' v hz hv=>MY h2 (hz.dJ hv hs)⟩
  ·exact h.elim
 | own t z r =>
  simp only[I3] at h
  split at h
  ·rename_i k hs
   split at h
   ·rename_i ro z' rows hσ
    split at h
    ·rename_i hc
     simp only[Bool.and_eq_true,Bool.not_eq_true',beq_iff_eq] at hc
     obtain ⟨rfl,rfl⟩:=hc
     obtain ⟨l,h1,h2⟩:=h
     exact ⟨l,h2,.inl ⟨k,rows,hs,hσ,h1⟩⟩
    ·exact h.elim
   ·exact h.elim
  ·rename_i tt hs
   split at h
   ·rename_i hr
    exact ⟨[],h,.inr ⟨rfl,tt,hs,hr⟩⟩
   ·exact h.elim
  ·exact h.elim
 | box k r =>
  simp only[I3] at h
  split at h
  ·rename_i ro cells hσ
   split at h
   ·rename_i ts hts
    obtain ⟨y,h1,h2⟩:=jC h
    exact ⟨y,h1,cells,ts,hσ,hts,h2⟩
   ·exact h.elim
  ·exact h.elim
 | map k kr ag r =>
  simp only[I3] at h
  split at h
  ·rename_i ro es hσ
   split at h
   ·obtain ⟨l,h1,h2⟩:=h
    exact ⟨l,h2,_,hσ,GZ h1⟩
   ·exact h.elim
  ·exact h.elim
 | iB k =>
  simp only[I3] at h
  split at h
  ·rename_i s pos hσ
   exact ⟨(s,pos),h,_,hσ,fun cx m w own' ρ ρ' l hρ _ hz hb=>hb.cut hρ hz.sub trivial,rfl⟩
  ·exact h.elim
 | fI k m =>
  simp only[I3] at h
  split at h
  ·rename_i m' since seen last hσ
   split at h
   ·rename_i hm'
    have hm':=of_decide_eq_true hm'
    subst hm'
    refine ⟨(since,seen,last),h,_,hσ,fun cx m w own' ρ ρ' l hρ _ hz hb=>hb.cut hρ hz.sub ?_,rfl⟩
    intro km hkm
    subst hkm
    simpa [rH] using hm
   ·exact h.elim
  ·exact h.elim
 | fix k =>
  simp only[I3] at h
  split at h
  ·rename_i x y hx hy
   split at h
   ·rename_i hw
    obtain ⟨rfl,h⟩:=h
    exact ⟨(),h,_,hx,hy,hw⟩
   ·exact h.elim
  ·exact h.elim
 | arr k z r =>
  simp only[I3] at h
  split at h
  ·rename_i ro z' rows hσ
   split at h
   ·rename_i hc
    simp only[Bool.and_eq_true,Bool.not_eq_true',beq_iff_eq] at hc
    obtain ⟨rfl,rfl⟩:=hc
    obtain ⟨l,h1,h2⟩:=h
    refine ⟨l,h2,_,hσ,fun cx m w own' ρ ρ' lo hρ _ hz hb=>?_,rfl⟩
    rw[←h1]
    exact sO hz.sub hb
   ·exact h.elim
  ·exact h.elim
 | bZ k =>
  simp only[I3] at h
  split at h
  ·rename_i es since seen last hσ
   exact ⟨(es,since,seen,last),h,_,hσ,fun cx m w own' ρ ρ' l hρ _ hz hb=>hb.cut hρ hz.sub trivial,rfl⟩
  ·exact h.elim
 | drop k=>exact ⟨(),h,trivial⟩
 | qI k o z r =>
  simp only[I3] at h
  split at h
  ·rename_i cells hσ
   split at h
   ·rename_i k' hc
    split at h
    ·rename_i ro z' rows hσ'
     split at h
     ·rename_i hw
      simp only[Bool.and_eq_true,Bool.not_eq_true',beq_iff_eq] at hw
      obtain ⟨rfl,rfl⟩:=hw
      obtain ⟨l,h1,h2⟩:=h
      exact ⟨l,h2,cells,_,hσ,hc,.inl ⟨k',rows,rfl,hσ',h1⟩⟩
     ·exact h.elim
    ·exact h.elim
   ·rename_i tt hc
    split at h
    ·rename_i hr
     exact ⟨[],h,cells,_,hσ,hc,.inr ⟨rfl,tt,rfl,hr⟩⟩
    ·exact h.elim
   ·exact h.elim
  ·exact h.elim
theorem H5 {n:Nat} {it:It} {l:List It} (h:rH n (it::l)=true):rH n [it]=true∧rH n l=true:=by
 cases it with
 | fI k m=>cases m<;>simp[rH] at h ⊢ <;> exact h
 | _=>exact ⟨rfl,h⟩
theorem p5 {n:Nat} {τ:Nat→Option aE} {π:Nat→Nat→Bool} {sr:List (Option Nat)} {st₀ st:St}:∀ {its:List It} {K:o9.den its→Prop},rH n its=true→x6 cO τ π st₀ st its K→∃ y,K y∧kI n τ π sr st₀ st its y
 | [],K,_,h=>⟨(),h,trivial⟩
 | it::l,K,hm,h=>by
  obtain ⟨m1,m2⟩:=H5 hm
  simp only[x6] at h
  obtain ⟨x,h1,h2⟩:=KA (sr:=sr) m1 h
  obtain ⟨y,h3,h4⟩:=p5 (sr:=sr) m2 h1
  exact ⟨(x,y),h3,h2,h4⟩
theorem sY {n:Nat} {st₀ st:St} {its:List It} {K:o9.den its→Prop} (hm:rH n its=true) (h:KB cO st₀ st its K):∃ y,K y∧E5 n st₀ st its y:=p5 hm h
end Go.Pv
