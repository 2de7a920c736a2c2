/-
  The symbolic executor, part d: where ways come together: a state of which only typed data are known.
-/
import Derived.Test.YtdplnhkfbmgofaaGreatDoorPv2kc
set_option linter.defProp false
set_option linter.unusedSimpArgs false
namespace Go.Pv
open Go Go.RowKit
inductive M1 (n:Nat):D→Prop
 | p (t:T):M1 n (.p t)
 | agg (cs:List D):(∀ i (h:i<cs.length),M1 n cs[i])→M1 n (.agg cs)
 | cC (cs:List D):(∀ i (h:i<cs.length),M1 n cs[i])→M1 n (.cC cs)
 | ptr (k i j:Nat):k<n→M1 n (.ptr k i j)
 | own (k:Nat):k<n→M1 n (.own k)
 | bs (k o l:Nat):k<n→M1 n (.bs k o l)
 | map (k:Nat):k<n→M1 n (.map k)
 | it (k:Nat):k<n→M1 n (.it k)
 | fn (f:FuncId) (a b:List D):(∀ i (h:i<a.length),M1 n a[i])→(∀ i (h:i<b.length),M1 n b[i])→M1 n (.fn f a b)
 | p0 (g:Bool) (d:D):M1 n d→M1 n (.cond g d)
 | yD (d:D):M1 n (.cond false d)
 | any:M1 n .any
section
variable {w : World} {own own' : Nat → Prop} {ρ ρ' : Nat → Option Loc} {n : Nat}
theorem Rd.blw (hρ:∀ k l,ρ k=some l→k<n) {d:D} {v:Value} (h:Rd w own ρ d v):M1 n d:=by
 induction h with
 | p t x h=>exact .p t
 | agg cs vs hs _ ih=>exact .agg cs ih
 | cC cs vs hs _ ih=>exact .cC cs ih
 | ptr k i j l h=>exact .ptr k i j (hρ _ _ h)
 | own k l h h0 h2 h3=>exact .own k (hρ _ _ h)
 | dF k l a h h0=>exact .own k (hρ _ _ h)
 | bs k off len l h h2 h3=>exact .bs k off len (hρ _ _ h)
 | map k l h=>exact .map k (hρ _ _ h)
 | it k l h=>exact .it k (hρ _ _ h)
 | fn f fs cs va vb h1 h2 _ _ ih1 ih2=>exact .fn f fs cs ih1 ih2
 | p0 d v _ ih=>exact .p0 _ d ih
 | yD d=>exact .yD d
 | any v=>exact .any
theorem Rd.cut (hρ:∀ k,k<n→ρ' k=ρ k) (ho:∀ b,own' b→own b) {d:D} {v:Value} (h:Rd w own ρ d v) (hb:M1 n d):Rd w own' ρ' d v:=by
 induction h with
 | p t x h=>exact .p t x (h.less ho)
 | agg cs vs hs _ ih=>cases hb with|agg _ hb=>exact .agg cs vs hs fun i hi=>ih i hi (hb i hi)
 | cC cs vs hs _ ih=>cases hb with|cC _ hb=>exact .cC cs vs hs fun i hi=>ih i hi (hb i hi)
 | ptr k i j l h=>cases hb with|ptr _ _ _ hk=>exact .ptr k i j l ((hρ k hk).trans h)
 | own k l h h0 h2 h3=>cases hb with|own _ hk=>exact .own k l ((hρ k hk).trans h) h0 h2 h3
 | dF k l a h h0=>cases hb with|own _ hk=>exact .dF k l a ((hρ k hk).trans h) h0
 | bs k off len l h h2 h3=>cases hb with|bs _ _ _ hk=>exact .bs k off len l ((hρ k hk).trans h) h2 h3
 | map k l h=>cases hb with|map _ hk=>exact .map k l ((hρ k hk).trans h)
 | it k l h=>cases hb with|it _ hk=>exact .it k l ((hρ k hk).trans h)
 | fn f fs cs va vb h1 h2 _ _ ih1 ih2=>cases hb with|fn _ _ _ hb1 hb2=>exact .fn f fs cs va vb h1 h2 (fun i hi=>ih1 i hi (hb1 i hi)) (fun i hi=>ih2 i hi (hb2 i hi))
 | p0 d v _ ih=>cases hb with|p0 _ _ hb=>exact .p0 d v (ih hb)
 | yD d=>exact .yD d
 | any v=>exact .any v
end
def P8 (n:Nat):bE→Prop
 | .rows _ rs=>∀ i (hi:i<rs.length) j (hj:j<rs[i].length),M1 n rs[i][j]
 | .arr _ _ _=>True
 | .map _ es=>∀ i (h:i<es.length),M1 n es[i].2
 | .jS _ _=>True
 | .lR m _ _ _=>∀ k,m=some k→k<n
 | .bW _ _ _ _=>True
 | .held=>True
def lock:bE→bE
 | .rows _ rs=>.rows true rs
 | .arr _ z rows=>.arr true z rows
 | .map _ es=>.map true es
 | x=>x
section
variable {w : World} {own own' : Nat → Prop} {ρ ρ' : Nat → Option Loc} {n : Nat} {l : Loc} {x y : bE}
theorem iP.blw (hρ:∀ k l,ρ k=some l→k<n) (h:iP w own ρ l x):P8 n x:=by
 rcases Nat.eq_zero_or_pos (l.L+l.C) with h0|h0
 ·obtain ⟨ro,z,rfl⟩:=h.2 h0;trivial
 ·obtain ⟨o,_,hb⟩:=h.1 h0
  cases hb with
  | rows _ rs c hr hz h' =>
   cases x with
   | rows ro rs'=>cases hr;exact fun i hi j hj=>let ⟨v,_,hv⟩:=h'.cell i j hi hj;hv.blw hρ
   | arr ro z rows=>trivial
   | _=>simp[dJ] at hr
  | map ro es ents h1 h2=>exact fun i hi=>let ⟨e,_,_,_,hv⟩:=h2 i hi;hv.blw hρ
  | jS s pos=>trivial
  | lR m l' since seen last h'=>exact fun k hk=>by cases hk;exact hρ _ _ h'
  | qZ=>exact fun k hk=>by cases hk
  | bW=>trivial
  | held o=>trivial
theorem A05 {rows:List (List T)} {i j:Nat} (hi:i<(aV rows).length) (hj:j<(aV rows)[i].length):∃ t,(aV rows)[i][j] = .p t:=by
 simp only[aV,List.getElem_map];exact ⟨_,rfl⟩
theorem iP.cut (hρ:∀ k,k<n→ρ' k=ρ k) (ho:∀ b,own' b→own b) (h:iP w own ρ l x) (hb:P8 n x):iP w own' ρ' l x:=by
 refine ⟨fun h0=>?_,h.2⟩
 obtain ⟨o,ho',hx⟩:=h.1 h0
 refine ⟨o,ho',?_⟩
 cases hx with
 | rows _ rs c hr hz h' =>
  refine .rows x rs c hr hz ⟨h'.size,h'.pos,h'.small,h'.len,h'.cnt,h'.width,fun i j hi hj=>?_,h'.one⟩
  obtain ⟨v,h1,h2⟩:=h'.cell i j hi hj
  refine ⟨v,h1,h2.cut hρ ho ?_⟩
  cases x with
  | rows ro rs'=>cases hr;exact hb i hi j hj
  | arr ro z rows=>cases hr;obtain ⟨t,ht⟩:=A05 hi hj;rw[ht];exact .p t
  | _=>simp[dJ] at hr
 | map ro es ents h1 h2=>exact .map ro es ents h1 fun i hi=>let ⟨e,a,b,c,hv⟩:=h2 i hi;⟨e,a,b,c,hv.cut hρ ho (hb i hi)⟩
 | jS s pos=>exact .jS s pos
 | lR m l' since seen last h'=>exact .lR m l' since seen last ((hρ m (hb m rfl)).trans h')
 | qZ=>exact .qZ
 | bW es b since seen last h'=>exact .bW es b since seen last (h'.less ho)
 | held o=>exact .held o
theorem iP.SU (hxy:lock x=lock y) (h:iP w own ρ l x):iP w own ρ l y:=by
 refine ⟨fun h0=>?_,fun h0=>?_⟩
 ·obtain ⟨o,ho',hx⟩:=h.1 h0
  refine ⟨o,ho',?_⟩
  cases hx with
  | rows _ rs c hr hz h' =>
   cases x with
   | rows ro rs' =>
    cases y<;>simp only[lock,bE.rows.injEq,reduceCtorEq] at hxy
    obtain ⟨_,rfl⟩:=hxy
    exact .rows _ rs c hr (fun _ _ _ e=>by cases e) h'
   | arr ro z rows =>
    cases y<;>simp only[lock,bE.arr.injEq,reduceCtorEq] at hxy
    obtain ⟨_,rfl,rfl⟩:=hxy
    exact .rows _ rs c hr (fun _ _ _ e=>by cases e;exact hz _ _ _ rfl) h'
   | _=>simp[dJ] at hr
  | map ro es ents h1 h2 =>
   cases y<;>simp only[lock,bE.map.injEq,reduceCtorEq] at hxy
   obtain ⟨_,rfl⟩:=hxy
   exact .map _ es ents h1 h2
  | jS s pos=>cases y<;>simp only[lock,reduceCtorEq] at hxy;cases hxy;exact .jS s pos
  | lR m l' since seen last h'=>cases y<;>simp only[lock,reduceCtorEq] at hxy;cases hxy;exact .lR m l' since seen last h'
  | qZ=>cases y<;>simp only[lock,reduceCtorEq] at hxy;cases hxy;exact .qZ
  | bW es b since seen last h'=>cases y<;>simp only[lock,reduceCtorEq] at hxy;cases hxy;exact .bW es b since seen last h'
  | held o=>cases y<;>simp only[lock,reduceCtorEq] at hxy;exact .held o
 ·obtain ⟨ro,z,rfl⟩:=h.2 h0
  cases y<;>simp only[lock,bE.arr.injEq,reduceCtorEq] at hxy
  obtain ⟨_,rfl,rfl⟩:=hxy
  exact ⟨_,_,rfl⟩
theorem w5 (x:bE):lock (lock x)=lock x:=by cases x<;>rfl
theorem AZ5 (h:fY x=false):fY (lock x)=false:=by cases x<;>first|rfl|exact h
end
inductive It where
 | val (t:Tmp) (ag:Bool) (r:Sy)
 | own (t:Tmp) (z:Nat) (r:Sy)
 | box (k:Nat) (r:Sy)
 | map (k:Nat) (kr:Sy) (ag:Bool) (r:Sy)
 | jS (k:Nat)
 | lR (k:Nat) (m:Option Nat)
 | fix (k:Nat)
 | arr (k:Nat) (z:Nat) (r:Sy)
 | bW (k:Nat)
 | drop (k:Nat)
 | rJ (k o z:Nat) (r:Sy)
abbrev It.den:It→Type
 | .val _ _ r=>r.den
 | .own _ _ r=>List r.den
 | .box _ r=>r.den
 | .map _ kr _ r=>List (kr.den×r.den)
 | .jS _=>ByteArray×Nat
 | .lR _ _=>Nat×List Nat×Nat
 | .fix _=>Unit
 | .arr _ _ r=>List r.den
 | .bW _=>List (Value×T)×Nat×List Nat×Nat
 | .drop _=>Unit
 | .rJ _ _ _ r=>List r.den
abbrev DB.den:List It→Type
 | []=>Unit
 | a::l=>a.den×DB.den l
def K6 (kr:Sy) (x:kr.den):Value:=match hdT (kr.enc x) with
 | .v x=>x
 | _=>undef
def cK (kr:Sy) (ag:Bool) (r:Sy) (e:kr.den×r.den):Value×D:=(K6 kr e.1,.p (aH ag r e.2))
def RE (e:Value×D):Value×D:=match e.2 with
 | .p t=>(e.1,.p (t.canon 1))
 | _=>e
def dL (kr:Sy) (ag:Bool) (r:Sy) (es:List (Value×D)) (K:List (kr.den×r.den)→Prop):Prop:=∃ l,es.map RE=l.map (cK kr ag r)∧K l
def uZ (n:Nat) (seen:List Nat) (A:Prop) (B:Nat→Prop):Prop:=(cN n seen=[]→A)∧∀ i,i∈cN n seen→B i
def GN (kr:Sy) (ag:Bool) (r:Sy) (es:List (Value×D)) (seen:List Nat) (K:kr.den→r.den→Prop):Prop:=∃ i x y,seen.getLast? = some i∧es[i]? = some (cK kr ag r (x,y))∧K x y
def fG (x y:bE) (K:Prop):Prop:=x=y∧K
def A8B (A B:Prop):Prop:=A∧B
structure j9 extends Combs where
 A8F:(kr:Sy)→(ag:Bool)→(r:Sy)→List (Value×D)→(List (kr.den×r.den)→Prop)→Prop
 each:Nat→List Nat→Prop→(Nat→Prop)→Prop
 ent:(kr:Sy)→(ag:Bool)→(r:Sy)→List (Value×D)→List Nat→(kr.den→r.den→Prop)→Prop
 same:bE→bE→Prop→Prop
 both:Prop→Prop→Prop
def bZ:j9:={ pP with A8F:=dL,each:=uZ,ent:=GN,same:=fG,both:=A8B }
section
variable (C : j9)
def exV:(r:Sy)→List T→(r.den→Prop)→Prop
 | .int k,row,K=>match row with
  | [.v (.int k' n)]=>match decide (k'=k) with
   | true=>K n
   | false=>C.bad 301
  | _=>C.bad 302
 | .bool,row,K=>match row with
  | [.v (.bool b)]=>K b
  | _=>C.bad 303
 | .str,row,K=>match row with
  | [.v (.string s)]=>K s
  | _=>C.bad 304
 | .any,row,K=>match row with
  | [x]=>K x
  | _=>C.bad 305
 | .pr a b,row,K=>exV a (row.take a.w) fun x=>exV b (row.drop a.w) fun y=>K (x,y)
 | .li r,row,K=>match row with
  | [.sl _ rows]=>C.dec r rows K
  | [.v (.slice none 0 0)]=>K []
  | [.ne _]=>K []
  | _=>C.bad 306
def sL (π:Nat→Nat→Bool) (k:Nat):Nat→List D→List D
 | _,[]=>[]
 | i,c::l=>(match π k i with
  | true=>.p (.sl false [])
  | false=>c)::sL π k (i+1) l
def A9O (τ:Nat→Option bE):Nat→List D→Nat
 | i,[]=>31600+i
 | i,c::l=>match iC τ 4 c with
  | some _=>A9O τ (i+1) l
  | none=>3160000+i*100+(match c with
   | .ptr _ _ _=>10
   | .own k=>match τ k with
    | some (.arr _ _ _)=>21
    | some _=>22
    | none=>20
   | .bs _ _ _=>30
   | .map _=>40
   | .it _=>50
   | .fn _ _ _=>60
   | .cond _ _=>70
   | .any=>80
   | _=>90)
def exI (τ:Nat→Option bE) (π:Nat→Nat→Bool) (st₀ st:St):(it:It)→(it.den→Prop)→Prop
 | .val t ag r,K=>match iC τ 4 (st.s t),ag with
  | some (.agg cs),true=>exV C r cs K
  | some (.v (.agg vs)),true=>exV C r (vs.toList.map .v) K
  | some x,false=>exV C r [x] K
  | _,_=>C.bad 311
 | .own t z r,K=>match st.s t with
  | .own k=>match st.σ k with
   | some (.arr ro z' rows)=>match !ro&&z' == z with
    | true=>C.dec r rows K
    | false=>C.bad 312
   | _=>C.bad 313
  | .p tt=>match eN tt with
   | some (true,[])=>K []
   | _=>C.bad 314
  | _=>C.bad 315
 | .box k r,K=>match st.σ k with
  | some (.rows ro [cells])=>match ro,(sL π k 0 cells).mapM (iC τ 4) with
   | false,some ts=>exV C r ts K
   | _,_=>C.bad (A9O τ 0 cells)
  | _=>C.bad 317
 | .map k kr ag r,K=>match st.σ k with
  | some (.map ro es)=>match ro with
   | false=>C.A8F kr ag r es K
   | true=>C.bad 318
  | _=>C.bad 319
 | .jS k,K=>match st.σ k with
  | some (.jS s pos)=>K (s,pos)
  | _=>C.bad 320
 | .lR k m,K=>match st.σ k with
  | some (.lR m' since seen last)=>match decide (m'=m) with
   | true=>K (since,seen,last)
   | false=>C.bad 321
  | _=>C.bad 322
 | .fix k,K=>match st.σ k,st₀.σ k with
  | some x,some y=>match fY x with
   | true=>C.same x y (K ())
   | false=>C.bad 324
  | _,_=>C.bad 325
 | .arr k z r,K=>match st.σ k with
  | some (.arr ro z' rows)=>match !ro&&z' == z with
   | true=>C.dec r rows K
   | false=>C.bad 326
  | _=>C.bad 327
 | .bW k,K=>match st.σ k with
  | some (.bW es since seen last)=>K (es,since,seen,last)
  | _=>C.bad 323
 | .drop _,K=>K ()
 | .rJ k o z r,K=>match st.σ k with
  | some (.rows false [cells])=>match cells[o]? with
   | some (.own k')=>match st.σ k' with
    | some (.arr ro z' rows)=>match !ro&&z' == z with
     | true=>C.dec r rows K
     | false=>C.bad 332
    | _=>C.bad 333
   | some (.p tt)=>match eN tt with
    | some (true,[])=>K []
    | _=>C.bad 334
   | _=>C.bad 335
  | _=>C.bad 336
def RM (τ:Nat→Option bE) (π:Nat→Nat→Bool) (st₀ st:St):(its:List It)→(DB.den its→Prop)→Prop
 | [],K=>K ()
 | it::l,K=>exI C τ π st₀ st it fun x=>RM τ π st₀ st l fun y=>K (x,y)
end
def x6 (n:Nat):(its:List It)→DB.den its→Nat→Nat→D
 | [],_,_,_=>.any
 | .val t ag r::l,y,j,i=>match i == t with
  | true=>.p (aH ag r y.1)
  | false=>x6 n l y.2 j i
 | .own t _ _::l,y,j,i=>match i == t with
  | true=>.own (n+j)
  | false=>x6 n l y.2 (j+1) i
 | .box _ _::l,y,j,i=>x6 n l y.2 j i
 | .map _ _ _ _::l,y,j,i=>x6 n l y.2 j i
 | .jS _::l,y,j,i=>x6 n l y.2 j i
 | .lR _ _::l,y,j,i=>x6 n l y.2 j i
 | .fix _::l,y,j,i=>x6 n l y.2 j i
 | .arr _ _ _::l,y,j,i=>x6 n l y.2 j i
 | .bW _::l,y,j,i=>x6 n l y.2 j i
 | .drop _::l,y,j,i=>x6 n l y.2 j i
 | .rJ _ _ _ _::l,y,j,i=>x6 n l y.2 (j+1) i
def kD (f:Nat→List D→List D) (st₀:St):(its:List It)→DB.den its→Nat→Option bE
 | [],_,_=>none
 | .val _ _ _::l,y,i=>kD f st₀ l y.2 i
 | .own _ _ _::l,y,i=>kD f st₀ l y.2 i
 | .box k r::l,y,i=>match i == k with
  | true=>some (.rows false [f k ((r.enc y.1).map .p)])
  | false=>kD f st₀ l y.2 i
 | .map k kr ag r::l,y,i=>match i == k with
  | true=>some (.map false (y.1.map (cK kr ag r)))
  | false=>kD f st₀ l y.2 i
 | .jS k::l,y,i=>match i == k with
  | true=>some (.jS y.1.1 y.1.2)
  | false=>kD f st₀ l y.2 i
 | .lR k m::l,y,i=>match i == k with
  | true=>some (.lR m y.1.1 y.1.2.1 y.1.2.2)
  | false=>kD f st₀ l y.2 i
 | .fix k::l,y,i=>match i == k with
  | true=>st₀.σ k
  | false=>kD f st₀ l y.2 i
 | .arr k z r::l,y,i=>match i == k with
  | true=>some (.arr false z (y.1.map r.enc))
  | false=>kD f st₀ l y.2 i
 | .bW k::l,y,i=>match i == k with
  | true=>some (.bW y.1.1 y.1.2.1 y.1.2.2.1 y.1.2.2.2)
  | false=>kD f st₀ l y.2 i
 | .drop k::l,y,i=>match i == k with
  | true=>none
  | false=>kD f st₀ l y.2 i
 | .rJ _ _ _ _::l,y,i=>kD f st₀ l y.2 i
def x5:(its:List It)→DB.den its→Nat→Option bE
 | [],_,_=>none
 | .own _ z r::l,y,j=>match j with
  | 0=>some (.arr false z (y.1.map r.enc))
  | j+1=>x5 l y.2 j
 | .rJ _ _ z r::l,y,j=>match j with
  | 0=>some (.arr false z (y.1.map r.enc))
  | j+1=>x5 l y.2 j
 | .val _ _ _::l,y,j=>x5 l y.2 j
 | .box _ _::l,y,j=>x5 l y.2 j
 | .map _ _ _ _::l,y,j=>x5 l y.2 j
 | .jS _::l,y,j=>x5 l y.2 j
 | .lR _ _::l,y,j=>x5 l y.2 j
 | .fix _::l,y,j=>x5 l y.2 j
 | .arr _ _ _::l,y,j=>x5 l y.2 j
 | .bW _::l,y,j=>x5 l y.2 j
 | .drop _::l,y,j=>x5 l y.2 j
def wQ (st:St) (k o:Nat):Option Nat:=match st.σ k with
 | some (.rows false [cells])=>match cells[o]? with
  | some (.own k')=>some k'
  | _=>none
 | _=>none
def oS:List It→Nat→Nat→Bool
 | [],_,_=>false
 | .rJ k o _ _::l,k',o'=>(k' == k&&o' == o)||oS l k' o'
 | _::l,k',o'=>oS l k' o'
def LR (n:Nat):List It→Nat→Nat→List D→List D
 | [],_,_,row=>row
 | .own _ _ _::l,j,k,row=>LR n l (j+1) k row
 | .rJ k' o _ _::l,j,k,row=>match k == k' with
  | true=>(LR n l (j+1) k row).set o (.own (n+j))
  | false=>LR n l (j+1) k row
 | _::l,j,k,row=>LR n l j k row
def iG:List It→St→List (Option Nat)
 | [],_=>[]
 | .own t _ _::l,st=>(match st.s t with
  | .own k=>some k
  | _=>none)::iG l st
 | .val _ _ _::l,st=>iG l st
 | .box _ _::l,st=>iG l st
 | .map _ _ _ _::l,st=>iG l st
 | .jS _::l,st=>iG l st
 | .lR _ _::l,st=>iG l st
 | .fix _::l,st=>iG l st
 | .arr _ _ _::l,st=>iG l st
 | .bW _::l,st=>iG l st
 | .drop _::l,st=>iG l st
 | .rJ k o _ _::l,st=>wQ st k o::iG l st
def uL:List It→Nat
 | []=>0
 | .own _ _ _::l=>uL l+1
 | .val _ _ _::l=>uL l
 | .box _ _::l=>uL l
 | .map _ _ _ _::l=>uL l
 | .jS _::l=>uL l
 | .lR _ _::l=>uL l
 | .fix _::l=>uL l
 | .arr _ _ _::l=>uL l
 | .bW _::l=>uL l
 | .drop _::l=>uL l
 | .rJ _ _ _ _::l=>uL l+1
theorem iH:∀ (its:List It) (st:St),(iG its st).length=uL its
 | [],_=>rfl
 | .own _ _ _::l,st=>by simp only[iG,uL,List.length_cons,iH l st]
 | .val _ _ _::l,st=>iH l st
 | .box _ _::l,st=>iH l st
 | .map _ _ _ _::l,st=>iH l st
 | .jS _::l,st=>iH l st
 | .lR _ _::l,st=>iH l st
 | .fix _::l,st=>iH l st
 | .arr _ _ _::l,st=>iH l st
 | .bW _::l,st=>iH l st
 | .drop _::l,st=>iH l st
 | .rJ _ _ _ _::l,st=>by simp only[iG,uL,List.length_cons,iH l st]
def yC:List It→Nat→Bool
 | [],_=>false
 | .box k _::l,i=>i == k||yC l i
 | .map k _ _ _::l,i=>i == k||yC l i
 | .jS k::l,i=>i == k||yC l i
 | .lR k _::l,i=>i == k||yC l i
 | .fix k::l,i=>i == k||yC l i
 | .arr k _ _::l,i=>i == k||yC l i
 | .bW k::l,i=>i == k||yC l i
 | .drop k::l,i=>i == k||yC l i
 | .rJ _ _ _ _::l,i=>yC l i
 | .val _ _ _::l,i=>yC l i
 | .own _ _ _::l,i=>yC l i
def HF (n:Nat):List It→Bool
 | []=>true
 | .lR _ (some m)::l=>decide (m<n)&&HF n l
 | _::l=>HF n l
def XR:bE→Bool
 | .jS _ _=>false
 | .lR _ _ _ _=>false
 | .bW _ _ _ _=>false
 | _=>true
def XL:List (Option Nat)→Nat→Bool
 | [],_=>false
 | some k::l,i=>i == k||XL l i
 | none::l,i=>XL l i
def kept (its:List It) (st₀:St) (k:Nat):Bool:=decide (k<st₀.n)&&match st₀.σ k with
 | some x=>!fY x||(!yC its k && !XL (iG its st₀) k&&XR x)
 | none=>false
def apart:List (Option Nat)→Bool
 | []=>true
 | some k::l=>!XL l k&&apart l
 | none::l=>apart l
def GD (its:List It) (st₀ st:St):Bool:=apart (iG its st)&&(iG its st).all (fun x=>match x with
 | some k=>!kept its st₀ k && !yC its k
 | none=>true)&&HF st₀.n its
def jX:List It→Nat→Bool
 | [],_=>false
 | .drop k::l,i=>i == k||jX l i
 | .box k _::l,i=>!(i == k)&&jX l i
 | .map k _ _ _::l,i=>!(i == k)&&jX l i
 | .jS k::l,i=>!(i == k)&&jX l i
 | .lR k _::l,i=>!(i == k)&&jX l i
 | .fix k::l,i=>!(i == k)&&jX l i
 | .arr k _ _::l,i=>!(i == k)&&jX l i
 | .bW k::l,i=>!(i == k)&&jX l i
 | .val _ _ _::l,i=>jX l i
 | .own _ _ _::l,i=>jX l i
 | .rJ _ _ _ _::l,i=>jX l i
def ATM (its:List It) (st₀ st:St) (k:Nat):Bool:=(decide (st₀.n≤k)||(!kept its st₀ k&&jX its k)) && !XL (iG its st) k
def AFI (its:List It) (st₀ st:St):Nat→Option bE:=fun k=>match ATM its st₀ st k with
 | true=>st.σ k
 | false=>none
def ARR (C:j9) (st₀ st:St) (its:List It) (K:DB.den its→Prop):Prop:=RM C (AFI its st₀ st) (oS its) st₀ st its K
def yI (its:List It) (A:Nat→Bool) (st₀:St) (y:DB.den its):St :=
 ⟨fun i=>match A i with
  | true=>x6 st₀.n its y 0 i
  | false=>st₀.s i,
  fun k=>match decide (k<st₀.n) with
  | true=>match kept its st₀ k with
   | true=>(st₀.σ k).map lock
   | false=>kD (LR st₀.n its 0) st₀ its y k
  | false=>x5 its y (k-st₀.n),
  st₀.n+uL its⟩
def NL (its:List It) (st₀:St):St:=⟨st₀.s,fun k=>match kept its st₀ k with
 | true=>(st₀.σ k).map lock
 | false=>st₀.σ k,st₀.n⟩
def TZ (its:List It) (st₀ st:St):St:=⟨st.s,fun k=>match kept its st₀ k with
 | true=>st₀.σ k
 | false=>st.σ k,st.n⟩
def Wk (a b:List T):Prop:=a.length=b.length∧∀ (i:Nat) (x y:T),a[i]? = some x→b[i]? = some y→∀ (w:World) (own:Nat→Prop) (v:Value),cH w own x v→cH w own y v
theorem Wk.refl (a:List T):Wk a a:=⟨rfl,fun i x y hx hy=>by rw[hx] at hy;cases hy;exact fun _ _ _ h=>h⟩
theorem AVF {w:World} {own:Nat→Prop} {f:Bool} {rows:List (List T)} {v:Value} (h:cH w own (.sl f rows) v):cH w own (.sl false (jW rows)) v:=by
 cases h with
 | cI _ a cap hf hn=>exact .cI false a cap (by simp) hn
 | sl _ _ sz b o cap g h1 h2 h3 h4 h45 h5 h6 h7 h8 =>
  have hl:(jW rows).length=rows.length:=by simp[jW]
  rw[←hl]
  refine .sl false (jW rows) sz b o cap g (by omega) (by omega) (by simp) h4 h45 (fun r hr=>?_) h6 (fun i j hi hj=>h7 i j (by omega) hj) (fun i j hi hj=>?_)
  ·simp only[jW,List.mem_map] at hr
   obtain ⟨r',hr',rfl⟩:=hr
   simpa using h5 r' hr'
  ·have hi':i<rows.length:=by omega
   have hr:(jW rows)[i]=rows[i].map (T.canon 0):=by simp[jW]
   have hj':j<rows[i].length:=by rw[hr] at hj;simpa using hj
   have:(jW rows)[i][j]=T.canon 0 rows[i][j]:=by simp[jW]
   rw[this]
   exact (h8 i j hi' hj').canon 0
theorem rN:∀ {r:Sy} {row:List T} {K:r.den→Prop},exV bZ r row K→∃ y,K y∧Wk row (r.enc y)
 | .int k,row,K,h=>by
  simp only[exV] at h
  split at h
  ·split at h
   ·rename_i hk
    have hk:=of_decide_eq_true hk
    subst hk
    exact ⟨_,h,Wk.refl _⟩
   ·exact h.elim
  ·exact h.elim
 | .bool,row,K,h=>by
  simp only[exV] at h
  split at h
  ·exact ⟨_,h,Wk.refl _⟩
  ·exact h.elim
 | .str,row,K,h=>by
  simp only[exV] at h
  split at h
  ·exact ⟨_,h,Wk.refl _⟩
  ·exact h.elim
 | .any,row,K,h=>by
  simp only[exV] at h
  split at h
  ·exact ⟨_,h,Wk.refl _⟩
  ·exact h.elim
 | .pr a b,row,K,h=>by
  simp only[exV] at h
  obtain ⟨x,h1,w1⟩:=rN h
  obtain ⟨y,h2,w2⟩:=rN h1
  refine ⟨(x,y),h2,?_,fun i u v hu hv=>?_⟩
  ·have l1:=w1.1
   have l2:=w2.1
   simp only[List.length_take,Sy.dD,List.length_drop] at l1 l2
   simp only[Sy.enc,List.length_append,Sy.dD]
   omega
  ·have l1:=w1.1
   simp only[List.length_take,Sy.dD] at l1
   simp only[Sy.enc] at hv
   by_cases hi:i<a.w
   ·rw[List.getElem?_append_left (by rw[Sy.dD];exact hi)] at hv
    exact w1.2 i u v (by rw[List.getElem?_take];simp[hi,hu]) hv
   ·rw[List.getElem?_append_right (by rw[Sy.dD];omega),Sy.dD] at hv
    exact w2.2 (i-a.w) u v (by rw[List.getElem?_drop];rw[show a.w+(i-a.w)=i by omega];exact hu) hv
 | .li r,row,K,h=>by
  simp only[exV] at h
  have one:∀ (u:T) (l:List r.den),(∀ w own v,cH w own u v→cH w own (.sl false (l.map r.enc)) v)→Wk [u] (Sy.enc (.li r) l):=by
   intro u l hw
   refine ⟨rfl,fun i x y hx hy=>?_⟩
   match i with
   | 0=>simp at hx;simp only[Sy.enc] at hy;simp at hy;subst hx;subst hy;exact hw
   | i+1=>simp at hx
  split at h
  ·rename_i f rows
   obtain ⟨l,h1,h2⟩:=h
   exact ⟨l,h2,one _ _ fun w own v hv=>by rw[←h1];exact AVF hv⟩
  ·refine ⟨[],h,one _ _ fun w own v hv=>?_⟩
   cases hv;exact .cI false none 0 (by simp) (by simp)
  ·refine ⟨[],h,one _ _ fun w own v hv=>?_⟩
   cases hv with
   | ne _ a cap hf=>exact .cI false (some a) cap (by simp) (by simp)
  ·exact h.elim
def NQ:Loc:=⟨0,0,0,0,0⟩
structure AIS (τ:Nat→Option bE) (st:St) (cx:Cx) (ρ:Nat→Option Loc) (m:Nat) (w:World) (own':Nat→Prop):Prop where
 inv:Inv cx ρ st.σ m w
 sub:∀ b,own' b→bP cx ρ st.σ b
 tau:∀ k x,τ k=some x→st.σ k=some x
 dis:∀ k x l,τ k=some x→ρ k=some l→0<l.L+l.C→¬ own' l.bN
theorem AIS.iC {τ:Nat→Option bE} {st:St} {cx:Cx} {ρ:Nat→Option Loc} {m:Nat} {w:World} {own':Nat→Prop} (h:AIS τ st cx ρ m w own') {k:Nat} {d:D} {t:T} {v:Value} (hd:Rd w (bP cx ρ st.σ) ρ d v) (hf:Go.Pv.iC τ k d=some t):cH w own' t v :=
 KK h.inv h.sub h.tau h.dis k hd hf
structure yA (n:Nat) (τ:Nat→Option bE) (sr:List (Option Nat)) (st:St) (x y:bE):Prop where
 ok:∀ (cx:Cx) (m:Nat) (w:World) (own':Nat→Prop) (ρ ρ':Nat→Option Loc) (l:Loc),(∀ k,k<n→ρ' k=ρ k)→(∀ j src,sr[j]? = some src→ρ' (n+j)=match src with
  | some k=>ρ k
  | none=>some NQ)→AIS τ st cx ρ m w own'→iP w (bP cx ρ st.σ) ρ l x→iP w own' ρ' l y
 wr:fY x=true
def A74 (n:Nat) (τ:Nat→Option bE) (π:Nat→Nat→Bool) (sr:List (Option Nat)) (st₀ st:St):(it:It)→it.den→Prop
 | .val t ag r,y=>∀ cx m ρ w own' v,AIS τ st cx ρ m w own'→Rd w (bP cx ρ st.σ) ρ (st.s t) v→cH w own' (aH ag r y) v
 | .own t z r,y=>(∃ k rows,st.s t = .own k∧st.σ k=some (.arr false z rows)∧jW rows=List.map r.enc y)∨(y=([]:List r.den)∧∃ tt,st.s t = .p tt∧eN tt=some (true,[]))
 | .box k r,y=>∃ cells ts,st.σ k=some (.rows false [cells])∧(sL π k 0 cells).mapM (iC τ 4)=some ts∧Wk ts (r.enc y)
 | .map k kr ag r,y=>∃ x,st.σ k=some x∧yA n τ sr st x (.map false (List.map (cK kr ag r) y))
 | .jS k,y=>∃ x,st.σ k=some x∧yA n τ sr st x (.jS y.1 y.2)
 | .lR k m,y=>∃ x,st.σ k=some x∧yA n τ sr st x (.lR m y.1 y.2.1 y.2.2)
 | .fix k,_=>∃ x,st.σ k=some x∧st₀.σ k=some x∧fY x=true
 | .arr k z r,y=>∃ x,st.σ k=some x∧yA n τ sr st x (.arr false z (List.map r.enc y))
 | .bW k,y=>∃ x,st.σ k=some x∧yA n τ sr st x (.bW y.1 y.2.1 y.2.2.1 y.2.2.2)
 | .drop _,_=>True
 | .rJ k o z r,y=>∃ cells c,st.σ k=some (.rows false [cells])∧cells[o]? = some c∧((∃ k' rows,c = .own k'∧st.σ k'=some (.arr false z rows)∧jW rows=List.map r.enc y)∨(y=([]:List r.den)∧∃ tt,c = .p tt∧eN tt=some (true,[])))
def uQ (n:Nat) (τ:Nat→Option bE) (π:Nat→Nat→Bool) (sr:List (Option Nat)) (st₀ st:St):(its:List It)→DB.den its→Prop
 | [],_=>True
 | it::l,y=>A74 n τ π sr st₀ st it y.1∧uQ n τ π sr st₀ st l y.2
def AFP (n:Nat) (st₀ st:St) (its:List It) (y:DB.den its):Prop:=uQ n (AFI its st₀ st) (oS its) (iG its st) st₀ st its y
theorem sM {π:Nat→Nat→Bool} {k:Nat}:∀ {cells:List D} {i:Nat},(sL π k i cells).length=cells.length
 | [],_=>rfl
 | c::l,i=>by simp only[sL,List.length_cons,sM (cells:=l)]
theorem JK {π:Nat→Nat→Bool} {k:Nat}:∀ {cells:List D} {i q:Nat} (h:q<cells.length),π k (i+q)=false→(sL π k i cells)[q]'(by rw[sM];exact h)=cells[q]
 | c::l,i,0,h,hp=>by
  simp only[sL,List.getElem_cons_zero]
  rw[show π k i=false from hp]
 | c::l,i,q+1,h,hp=>by
  simp only[sL,List.getElem_cons_succ]
  exact JK (by simpa using h) (by rw[←hp];congr 1;omega)
structure AQP (π:Nat→Nat→Bool) (n k:Nat) (sr:List (Option Nat)) (cells:List D) (base row:List D):Prop where
 len:row.length=base.length
 at_:∀ i c,row[i]? = some c→(π k i=false∧base[i]? = some c)∨(π k i=true∧∃ j src,c = .own (n+j)∧sr[j]? = some src∧((∃ k',cells[i]? = some (.own k')∧src=some k')∨(src=none∧∃ tt,cells[i]? = some (.p tt)∧eN tt=some (true,[]))))
theorem YY {w:World} {own:Nat→Prop} {tt:T} {v:Value} (h:cH w own tt v) (hr:eN tt=some (true,[])):∃ a,v = .slice a 0 0:=by
 unfold eN at hr
 split at hr
 ·cases hr
  cases h with
  | cI _ a cap hf hn=>rw[hf rfl];exact ⟨a,rfl⟩
  | sl _ _ sz b o cap g h1 h2 h3 h4 h45 h5 h6 h7 h8=>have:=h3 rfl;simp at this;subst this;exact ⟨_,rfl⟩
 ·cases hr;cases h;exact ⟨none,rfl⟩
 ·cases hr
  cases h with
  | ne _ a cap hf=>exact ⟨some a,by rw[hf rfl]⟩
 ·cases hr
theorem T0 {w:World} {own:Nat→Prop} {a b:List T} (h:Wk a b) {v:Value} (hv:cH w own (.agg a) v):cH w own (.agg b) v:=by
 cases hv with
 | agg _ vs h1 h2 =>
  refine .agg b vs (by rw[h1,h.1]) fun i hi=>?_
  have hi':i<a.length:=by rw[h.1];exact hi
  exact h.2 i a[i] b[i] (by simp[hi']) (by simp[hi]) _ _ _ (h2 i hi')
theorem AWQ {w:World} {own:Nat→Prop} {x:T} {b:List T} (h:Wk [x] b) {v:Value} (hv:cH w own x v):cH w own (hdT b) v:=by
 have hl:=h.1
 match b,hl with
 | [y],_=>exact h.2 0 x y rfl rfl _ _ _ hv
theorem ABZ {n k:Nat} {τ:Nat→Option bE} {π:Nat→Nat→Bool} {sr:List (Option Nat)} {st:St} {cells:List D} {ts ts':List T} {row:List D} (hm:(sL π k 0 cells).mapM (iC τ 4)=some ts) (h:Wk ts ts') (hw:AQP π n k sr cells (ts'.map .p) row):yA n τ sr st (.rows false [cells]) (.rows false [row]):=by
 refine ⟨fun cx m w own' ρ ρ' l hρ hs hzz hb=>?_,rfl⟩
 obtain ⟨m1,m2⟩:=mapM_some_length hm
 rw[sM] at m1
 refine ⟨fun h0=>?_,fun h0=>by obtain ⟨_,_,e⟩:=hb.2 h0;cases e⟩
 obtain ⟨o,h1,h2⟩:=hb.1 h0
 refine ⟨o,h1,?_⟩
 have hlen:row.length=cells.length:=by rw[hw.len,List.length_map,←h.1,m1]
 cases h2 with
 | rows _ rs c hr hz h2 =>
  cases hr
  refine .rows _ [row] c rfl (fun _ _ _ e=>by cases e) ⟨h2.size,h2.pos,h2.small,h2.len,h2.cnt,fun r hr=>?_,fun i j hi hj=>?_,h2.one⟩
  ·have:=h2.width cells (by simp)
   simp only[List.mem_singleton] at hr
   subst hr
   rw[hlen]
   exact this
  ·have hi0:i=0:=by simpa using hi
   subst hi0
   simp only[List.getElem_cons_zero] at hj
   have hj2:j<cells.length:=by omega
   have hj':j<ts.length:=by omega
   obtain ⟨v,e1,e2⟩:=h2.cell 0 j (by simp) (by simpa using hj2)
   refine ⟨v,e1,?_⟩
   simp only[List.getElem_cons_zero] at e2 ⊢
   rcases hw.at_ j row[j] (by simp[hj]) with ⟨p1,p2⟩|⟨p1,q,src,p2,p3,p4⟩
   ·have e3:row[j] = .p (ts'[j]'(by rw[←h.1];exact hj')):=by
     have:=List.getElem?_eq_some_iff.1 p2
     obtain ⟨_,g⟩:=this
     rw[←g,List.getElem_map]
    rw[e3]
    refine .p _ _ (h.2 j ts[j] _ (by simp[hj']) (by simp[h.1 ▸ hj']) _ _ _ (hzz.iC (k:=4) e2 ?_))
    have:=m2 j (by rw[sM];exact hj2) hj'
    rw[JK hj2 (by rw[Nat.zero_add];exact p1)] at this
    exact this
   ·rw[p2]
    have h3:=hs q src p3
    have hc:cells[j]? = some cells[j]:=by simp[hj2]
    rcases p4 with ⟨k',g1,rfl⟩|⟨rfl,tt,g1,g2⟩
    ·rw[hc] at g1
     rw[Option.some.inj g1] at e2
     simp only at h3
     cases e2 with
     | own _ lo hl hL h4 h5=>exact .own _ lo (h3.trans hl) hL h4 h5
     | dF _ lo a hl hL=>exact .dF _ lo a (h3.trans hl) hL
    ·rw[hc] at g1
     rw[Option.some.inj g1] at e2
     cases e2 with
     | p _ _ e2 =>
      obtain ⟨a,rfl⟩:=YY e2 g2
      exact .dF _ NQ a h3 rfl
theorem AY5 {w:World} {own:Nat→Prop} {ρ:Nat→Option Loc} {e:Value×D} {v:Value} (h:Rd w own ρ e.2 v):Rd w own ρ (RE e).2 v:=by
 unfold RE
 split
 ·rename_i t ht
  rw[ht] at h
  cases h with
  | p _ _ h=>exact .p _ _ (h.canon 1)
 ·exact h
theorem AQ1 (e:Value×D):(RE e).1=e.1:=by unfold RE;split<;>rfl
theorem AJD {n:Nat} {τ:Nat→Option bE} {sr:List (Option Nat)} {st:St} {es:List (Value×D)} {kr:Sy} {ag:Bool} {r:Sy} {l:List (kr.den×r.den)} (h:es.map RE=l.map (cK kr ag r)):yA n τ sr st (.map false es) (.map false (l.map (cK kr ag r))):=by
 refine ⟨fun cx m w own' ρ ρ' lo hρ _ hz hb=>?_,rfl⟩
 refine ⟨fun h0=>?_,fun h0=>by obtain ⟨_,_,e⟩:=hb.2 h0;cases e⟩
 obtain ⟨o,h1,h2⟩:=hb.1 h0
 refine ⟨o,h1,?_⟩
 cases h2 with
 | rows _ rs c hr hz h2=>simp[dJ] at hr
 | map _ _ ents e1 e2 =>
  have hlen:es.length=(l.map (cK kr ag r)).length:=by rw[←h];simp
  rw[hlen]
  refine .map false _ ents (by omega) fun i hi=>?_
  have hi':i<es.length:=by omega
  obtain ⟨e,g1,g2,g3,g4⟩:=e2 i hi'
  have he:(l.map (cK kr ag r))[i]=RE es[i]:=by
   have:(es.map RE)[i]'(by simpa using hi')=(l.map (cK kr ag r))[i]:=by congr 1
   rw[←this];simp
  have hp:∃ t,(l.map (cK kr ag r))[i].2 = .p t:=by simp only[List.getElem_map];exact ⟨_,rfl⟩
  refine ⟨e,g1,?_,g3,?_⟩
  ·rw[he,AQ1];exact g2
  ·have g5:=AY5 g4
   rw[←he] at g5
   obtain ⟨t,ht⟩:=hp
   rw[ht] at g5 ⊢
   cases g5 with
   | p _ _ g5=>exact .p _ _ (g5.less hz.sub)
theorem JM {w:World} {own own':Nat→Prop} {ρ ρ':Nat→Option Loc} {l:Loc} {ro:Bool} {z:Nat} {rows:List (List T)} (ho:∀ b,own' b→own b) (h:iP w own ρ l (.arr ro z rows)):iP w own' ρ' l (.arr ro z (jW rows)):=by
 refine ⟨fun h0=>?_,fun h0=>?_⟩
 ·obtain ⟨o,h1,h2⟩:=h.1 h0
  refine ⟨o,h1,?_⟩
  cases h2 with
  | rows _ rs c hr hz h2 =>
   cases hr
   have hl:(aV (jW rows)).length=(aV rows).length:=by simp[aV,jW]
   refine .rows _ (aV (jW rows)) c rfl (fun _ _ _ e=>by cases e;exact hz _ _ _ rfl) ⟨h2.size,h2.pos,by have:=h2.small;omega,by have:=h2.len;omega,by have:=h2.cnt;omega,fun r hr=>?_,fun i j hi hj=>?_,h2.one⟩
   ·simp only[aV,jW,List.map_map,List.mem_map,Function.comp] at hr
    obtain ⟨r',hr',rfl⟩:=hr
    have:=h2.width (r'.map .p) (by simp only[aV,List.mem_map];exact ⟨r',hr',rfl⟩)
    simpa using this
   ·have hi':i<rows.length:=by simpa [aV,jW] using hi
    have e1:(aV (jW rows))[i]=(rows[i].map (T.canon 0)).map .p:=by simp[aV,jW]
    have hj':j<rows[i].length:=by rw[e1] at hj;simpa using hj
    have e3:(aV rows)[i]'(by simpa using hi')=rows[i].map .p:=by simp[aV]
    obtain ⟨v,g1,g2⟩:=h2.cell i j (by simpa using hi') (by rw[e3];simpa using hj')
    refine ⟨v,g1,?_⟩
    have e2:(aV (jW rows))[i][j] = .p (T.canon 0 rows[i][j]):=by simp[aV,jW]
    have e4:((aV rows)[i]'(by simpa using hi'))[j]'(by rw[e3];simpa using hj') = .p rows[i][j]:=by simp[aV]
    rw[e4] at g2
    rw[e2]
    cases g2 with
    | p _ _ g2=>exact .p _ _ ((g2.canon 0).less ho)
 ·obtain ⟨_,_,e⟩:=h.2 h0
  cases e
  exact ⟨_,_,rfl⟩
theorem ARQ {n:Nat} {τ:Nat→Option bE} {π:Nat→Nat→Bool} {sr:List (Option Nat)} {st₀ st:St} {it:It} {K:it.den→Prop} (hm:HF n [it]=true) (h:exI bZ τ π st₀ st it K):∃ y,K y∧A74 n τ π sr st₀ st it y:=by
 cases it with
 | val t ag r =>
  simp only[exI] at h
  split at h
  ·rename_i cs hs
   obtain ⟨y,h1,h2⟩:=rN h
   exact ⟨y,h1,fun cx m ρ w own' v hz hv=>T0 h2 (hz.iC hv hs)⟩
  ·rename_i vs hs
   obtain ⟨y,h1,h2⟩:=rN h
   refine ⟨y,h1,fun cx m ρ w own' v hz hv=>?_⟩
   have hv:=hz.iC hv hs
   cases hv
   exact T0 h2 (.agg _ _ (cT.vs (R:=cH w own') (g:=T.v) .v _).1 (cT.vs (R:=cH w own') (g:=T.v) .v _).2)
  ·rename_i x hs
   obtain ⟨y,h1,h2⟩:=rN h
   exact ⟨y,h1,fun cx m ρ w own' v hz hv=>AWQ h2 (hz.iC hv hs)⟩
  ·exact h.elim
 | own t z r =>
  simp only[exI] at h
  split at h
  ·rename_i k hs
   split at h
   ·rename_i ro z' rows hσ
    split at h
    ·rename_i hc
     simp only[Bool.and_eq_true,Bool.not_eq_true',beq_iff_eq] at hc
     obtain ⟨rfl,rfl⟩:=hc
     obtain ⟨l,h1,h2⟩:=h
     exact ⟨l,h2,.inl ⟨k,rows,hs,hσ,h1⟩⟩
    ·exact h.elim
   ·exact h.elim
  ·rename_i tt hs
   split at h
   ·rename_i hr
    exact ⟨[],h,.inr ⟨rfl,tt,hs,hr⟩⟩
   ·exact h.elim
  ·exact h.elim
 | box k r =>
  simp only[exI] at h
  split at h
  ·rename_i ro cells hσ
   split at h
   ·rename_i ts hts
    obtain ⟨y,h1,h2⟩:=rN h
    exact ⟨y,h1,cells,ts,hσ,hts,h2⟩
   ·exact h.elim
  ·exact h.elim
 | map k kr ag r =>
  simp only[exI] at h
  split at h
  ·rename_i ro es hσ
   split at h
   ·obtain ⟨l,h1,h2⟩:=h
    exact ⟨l,h2,_,hσ,AJD h1⟩
   ·exact h.elim
  ·exact h.elim
 | jS k =>
  simp only[exI] at h
  split at h
  ·rename_i s pos hσ
   exact ⟨(s,pos),h,_,hσ,fun cx m w own' ρ ρ' l hρ _ hz hb=>hb.cut hρ hz.sub trivial,rfl⟩
  ·exact h.elim
 | lR k m =>
  simp only[exI] at h
  split at h
  ·rename_i m' since seen last hσ
   split at h
   ·rename_i hm'
    have hm':=of_decide_eq_true hm'
    subst hm'
    refine ⟨(since,seen,last),h,_,hσ,fun cx m w own' ρ ρ' l hρ _ hz hb=>hb.cut hρ hz.sub ?_,rfl⟩
    intro km hkm
    subst hkm
    simpa [HF] using hm
   ·exact h.elim
  ·exact h.elim
 | fix k =>
  simp only[exI] at h
  split at h
  ·rename_i x y hx hy
   split at h
   ·rename_i hw
    obtain ⟨rfl,h⟩:=h
    exact ⟨(),h,_,hx,hy,hw⟩
   ·exact h.elim
  ·exact h.elim
 | arr k z r =>
  simp only[exI] at h
  split at h
  ·rename_i ro z' rows hσ
   split at h
   ·rename_i hc
    simp only[Bool.and_eq_true,Bool.not_eq_true',beq_iff_eq] at hc
    obtain ⟨rfl,rfl⟩:=hc
    obtain ⟨l,h1,h2⟩:=h
    refine ⟨l,h2,_,hσ,fun cx m w own' ρ ρ' lo hρ _ hz hb=>?_,rfl⟩
    rw[←h1]
    exact JM hz.sub hb
   ·exact h.elim
  ·exact h.elim
 | bW k =>
  simp only[exI] at h
  split at h
  ·rename_i es since seen last hσ
   exact ⟨(es,since,seen,last),h,_,hσ,fun cx m w own' ρ ρ' l hρ _ hz hb=>hb.cut hρ hz.sub trivial,rfl⟩
  ·exact h.elim
 | drop k=>exact ⟨(),h,trivial⟩
 | rJ k o z r =>
  simp only[exI] at h
  split at h
  ·rename_i cells hσ
   split at h
   ·rename_i k' hc
    split at h
    ·rename_i ro z' rows hσ'
     split at h
     ·rename_i hw
      simp only[Bool.and_eq_true,Bool.not_eq_true',beq_iff_eq] at hw
      obtain ⟨rfl,rfl⟩:=hw
      obtain ⟨l,h1,h2⟩:=h
      exact ⟨l,h2,cells,_,hσ,hc,.inl ⟨k',rows,rfl,hσ',h1⟩⟩
     ·exact h.elim
    ·exact h.elim
   ·rename_i tt hc
    split at h
    ·rename_i hr
     exact ⟨[],h,cells,_,hσ,hc,.inr ⟨rfl,tt,rfl,hr⟩⟩
    ·exact h.elim
   ·exact h.elim
  ·exact h.elim
theorem ALE {n:Nat} {it:It} {l:List It} (h:HF n (it::l)=true):HF n [it]=true∧HF n l=true:=by
 cases it with
 | lR k m=>cases m<;>simp[HF] at h ⊢ <;> exact h
 | _=>exact ⟨rfl,h⟩
theorem FW {n:Nat} {τ:Nat→Option bE} {π:Nat→Nat→Bool} {sr:List (Option Nat)} {st₀ st:St}:∀ {its:List It} {K:DB.den its→Prop},HF n its=true→RM bZ τ π st₀ st its K→∃ y,K y∧uQ n τ π sr st₀ st its y
 | [],K,_,h=>⟨(),h,trivial⟩
 | it::l,K,hm,h=>by
  obtain ⟨m1,m2⟩:=ALE hm
  simp only[RM] at h
  obtain ⟨x,h1,h2⟩:=ARQ (sr:=sr) m1 h
  obtain ⟨y,h3,h4⟩:=FW (sr:=sr) m2 h1
  exact ⟨(x,y),h3,h2,h4⟩
theorem J2 {n:Nat} {st₀ st:St} {its:List It} {K:DB.den its→Prop} (hm:HF n its=true) (h:ARR bZ st₀ st its K):∃ y,K y∧AFP n st₀ st its y:=FW hm h
end Go.Pv
