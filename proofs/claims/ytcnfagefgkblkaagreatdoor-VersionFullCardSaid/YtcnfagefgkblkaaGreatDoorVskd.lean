/-
  The symbolic executor, part d: where ways come together: a state of which only typed data are known.
-/
import Derived.Test.YtcnfagefgkblkaaGreatDoorVskc
set_option linter.defProp false
set_option linter.unusedSimpArgs false
namespace Go.Pv
open Go Go.RowKit
inductive NS (n:Nat):D→Prop
 | p (t:T):NS n (.p t)
 | agg (cs:List D):(∀ i (h:i<cs.length),NS n cs[i])→NS n (.agg cs)
 | bU (cs:List D):(∀ i (h:i<cs.length),NS n cs[i])→NS n (.bU cs)
 | ptr (k i j:Nat):k<n→NS n (.ptr k i j)
 | own (k:Nat):k<n→NS n (.own k)
 | bs (k o l:Nat):k<n→NS n (.bs k o l)
 | map (k:Nat):k<n→NS n (.map k)
 | it (k:Nat):k<n→NS n (.it k)
 | fn (f:FuncId) (a b:List D):(∀ i (h:i<a.length),NS n a[i])→(∀ i (h:i<b.length),NS n b[i])→NS n (.fn f a b)
 | qI (g:Bool) (d:D):NS n d→NS n (.cond g d)
 | yV (d:D):NS n (.cond false d)
 | any:NS n .any
section
variable {w : World} {own own' : Nat → Prop} {ρ ρ' : Nat → Option Loc} {n : Nat}
theorem Rd.blw (hρ:∀ k l,ρ k=some l→k<n) {d:D} {v:Value} (h:Rd w own ρ d v):NS n d:=by
 induction h with
 | p t x h=>exact .p t
 | agg cs vs hs _ ih=>exact .agg cs ih
 | bU cs vs hs _ ih=>exact .bU cs ih
 | ptr k i j l h=>exact .ptr k i j (hρ _ _ h)
 | own k l h h0 h2 h3=>exact .own k (hρ _ _ h)
 | dF k l a h h0=>exact .own k (hρ _ _ h)
 | bs k off len l h h2 h3=>exact .bs k off len (hρ _ _ h)
 | map k l h=>exact .map k (hρ _ _ h)
 | it k l h=>exact .it k (hρ _ _ h)
 | fn f fs cs va vb h1 h2 _ _ ih1 ih2=>exact .fn f fs cs ih1 ih2
 | qI d v _ ih=>exact .qI _ d ih
 | yV d=>exact .yV d
 | any v=>exact .any
theorem Rd.cut (hρ:∀ k,k<n→ρ' k=ρ k) (ho:∀ b,own' b→own b) {d:D} {v:Value} (h:Rd w own ρ d v) (hb:NS n d):Rd w own' ρ' d v:=by
 induction h with
 | p t x h=>exact .p t x (h.less ho)
 | agg cs vs hs _ ih=>cases hb with|agg _ hb=>exact .agg cs vs hs fun i hi=>ih i hi (hb i hi)
 | bU cs vs hs _ ih=>cases hb with|bU _ hb=>exact .bU cs vs hs fun i hi=>ih i hi (hb i hi)
 | ptr k i j l h=>cases hb with|ptr _ _ _ hk=>exact .ptr k i j l ((hρ k hk).trans h)
 | own k l h h0 h2 h3=>cases hb with|own _ hk=>exact .own k l ((hρ k hk).trans h) h0 h2 h3
 | dF k l a h h0=>cases hb with|own _ hk=>exact .dF k l a ((hρ k hk).trans h) h0
 | bs k off len l h h2 h3=>cases hb with|bs _ _ _ hk=>exact .bs k off len l ((hρ k hk).trans h) h2 h3
 | map k l h=>cases hb with|map _ hk=>exact .map k l ((hρ k hk).trans h)
 | it k l h=>cases hb with|it _ hk=>exact .it k l ((hρ k hk).trans h)
 | fn f fs cs va vb h1 h2 _ _ ih1 ih2=>cases hb with|fn _ _ _ hb1 hb2=>exact .fn f fs cs va vb h1 h2 (fun i hi=>ih1 i hi (hb1 i hi)) (fun i hi=>ih2 i hi (hb2 i hi))
 | qI d v _ ih=>cases hb with|qI _ _ hb=>exact .qI d v (ih hb)
 | yV d=>exact .yV d
 | any v=>exact .any v
end
def RA (n:Nat):a6→Prop
 | .rows _ rs=>∀ i (hi:i<rs.length) j (hj:j<rs[i].length),NS n rs[i][j]
 | .arr _ _ _=>True
 | .map _ es=>∀ i (h:i<es.length),NS n es[i].2
 | .jV _ _=>True
 | .mA m _ _ _=>∀ k,m=some k→k<n
 | .bW _ _ _ _=>True
 | .held=>True
def lock:a6→a6
 | .rows _ rs=>.rows true rs
 | .arr _ z rows=>.arr true z rows
 | .map _ es=>.map true es
 | x=>x
section
variable {w : World} {own own' : Nat → Prop} {ρ ρ' : Nat → Option Loc} {n : Nat} {l : Loc} {x y : a6}
theorem jA.blw (hρ:∀ k l,ρ k=some l→k<n) (h:jA w own ρ l x):RA n x:=by
 rcases Nat.eq_zero_or_pos (l.L+l.C) with h0|h0
 ·obtain ⟨ro,z,rfl⟩:=h.2 h0;trivial
 ·obtain ⟨o,_,hb⟩:=h.1 h0
  cases hb with
  | rows _ rs c hr hz h' =>
   cases x with
   | rows ro rs'=>cases hr;exact fun i hi j hj=>let ⟨v,_,hv⟩:=h'.cell i j hi hj;hv.blw hρ
   | arr ro z rows=>trivial
   | _=>simp[dL] at hr
  | map ro es ents h1 h2=>exact fun i hi=>let ⟨e,_,_,_,hv⟩:=h2 i hi;hv.blw hρ
  | jV s pos=>trivial
  | mA m l' since seen last h'=>exact fun k hk=>by cases hk;exact hρ _ _ h'
  | rB=>exact fun k hk=>by cases hk
  | bW=>trivial
  | held o=>trivial
theorem A4X {rows:List (List T)} {i j:Nat} (hi:i<(aT rows).length) (hj:j<(aT rows)[i].length):∃ t,(aT rows)[i][j] = .p t:=by
 simp only[aT,List.getElem_map];exact ⟨_,rfl⟩
theorem jA.cut (hρ:∀ k,k<n→ρ' k=ρ k) (ho:∀ b,own' b→own b) (h:jA w own ρ l x) (hb:RA n x):jA w own' ρ' l x:=by
 refine ⟨fun h0=>?_,h.2⟩
 obtain ⟨o,ho',hx⟩:=h.1 h0
 refine ⟨o,ho',?_⟩
 cases hx with
 | rows _ rs c hr hz h' =>
  refine .rows x rs c hr hz ⟨h'.size,h'.pos,h'.small,h'.len,h'.cnt,h'.width,fun i j hi hj=>?_,h'.one⟩
  obtain ⟨v,h1,h2⟩:=h'.cell i j hi hj
  refine ⟨v,h1,h2.cut hρ ho ?_⟩
  cases x with
  | rows ro rs'=>cases hr;exact hb i hi j hj
  | arr ro z rows=>cases hr;obtain ⟨t,ht⟩:=A4X hi hj;rw[ht];exact .p t
  | _=>simp[dL] at hr
 | map ro es ents h1 h2=>exact .map ro es ents h1 fun i hi=>let ⟨e,a,b,c,hv⟩:=h2 i hi;⟨e,a,b,c,hv.cut hρ ho (hb i hi)⟩
 | jV s pos=>exact .jV s pos
 | mA m l' since seen last h'=>exact .mA m l' since seen last ((hρ m (hb m rfl)).trans h')
 | rB=>exact .rB
 | bW es b since seen last h'=>exact .bW es b since seen last (h'.less ho)
 | held o=>exact .held o
theorem jA.TU (hxy:lock x=lock y) (h:jA w own ρ l x):jA w own ρ l y:=by
 refine ⟨fun h0=>?_,fun h0=>?_⟩
 ·obtain ⟨o,ho',hx⟩:=h.1 h0
  refine ⟨o,ho',?_⟩
  cases hx with
  | rows _ rs c hr hz h' =>
   cases x with
   | rows ro rs' =>
    cases y<;>simp only[lock,a6.rows.injEq,reduceCtorEq] at hxy
    obtain ⟨_,rfl⟩:=hxy
    exact .rows _ rs c hr (fun _ _ _ e=>by cases e) h'
   | arr ro z rows =>
    cases y<;>simp only[lock,a6.arr.injEq,reduceCtorEq] at hxy
    obtain ⟨_,rfl,rfl⟩:=hxy
    exact .rows _ rs c hr (fun _ _ _ e=>by cases e;exact hz _ _ _ rfl) h'
   | _=>simp[dL] at hr
  | map ro es ents h1 h2 =>
   cases y<;>simp only[lock,a6.map.injEq,reduceCtorEq] at hxy
   obtain ⟨_,rfl⟩:=hxy
   exact .map _ es ents h1 h2
  | jV s pos=>cases y<;>simp only[lock,reduceCtorEq] at hxy;cases hxy;exact .jV s pos
  | mA m l' since seen last h'=>cases y<;>simp only[lock,reduceCtorEq] at hxy;cases hxy;exact .mA m l' since seen last h'
  | rB=>cases y<;>simp only[lock,reduceCtorEq] at hxy;cases hxy;exact .rB
  | bW es b since seen last h'=>cases y<;>simp only[lock,reduceCtorEq] at hxy;cases hxy;exact .bW es b since seen last h'
  | held o=>cases y<;>simp only[lock,reduceCtorEq] at hxy;exact .held o
 ·obtain ⟨ro,z,rfl⟩:=h.2 h0
  cases y<;>simp only[lock,a6.arr.injEq,reduceCtorEq] at hxy
  obtain ⟨_,rfl,rfl⟩:=hxy
  exact ⟨_,_,rfl⟩
theorem xL (x:a6):lock (lock x)=lock x:=by cases x<;>rfl
theorem A3U (h:e9 x=false):e9 (lock x)=false:=by cases x<;>first|rfl|exact h
end
inductive It where
 | val (t:Tmp) (ag:Bool) (r:Sy)
 | own (t:Tmp) (z:Nat) (r:Sy)
 | box (k:Nat) (r:Sy)
 | map (k:Nat) (kr:Sy) (ag:Bool) (r:Sy)
 | jV (k:Nat)
 | mA (k:Nat) (m:Option Nat)
 | fix (k:Nat)
 | arr (k:Nat) (z:Nat) (r:Sy)
 | bW (k:Nat)
 | drop (k:Nat)
 | GX (k o z:Nat) (r:Sy)
abbrev It.den:It→Type
 | .val _ _ r=>r.den
 | .own _ _ r=>List r.den
 | .box _ r=>r.den
 | .map _ kr _ r=>List (kr.den×r.den)
 | .jV _=>ByteArray×Nat
 | .mA _ _=>Nat×List Nat×Nat
 | .fix _=>Unit
 | .arr _ _ r=>List r.den
 | .bW _=>List (Value×T)×Nat×List Nat×Nat
 | .drop _=>Unit
 | .GX _ _ _ r=>List r.den
abbrev EH.den:List It→Type
 | []=>Unit
 | a::l=>a.den×EH.den l
def LV (kr:Sy) (x:kr.den):Value:=match hdT (kr.enc x) with
 | .v x=>x
 | _=>undef
def cN (kr:Sy) (ag:Bool) (r:Sy) (e:kr.den×r.den):Value×D:=(LV kr e.1,.p (aF ag r e.2))
def SF (e:Value×D):Value×D:=match e.2 with
 | .p t=>(e.1,.p (t.canon 1))
 | _=>e
def dN (kr:Sy) (ag:Bool) (r:Sy) (es:List (Value×D)) (K:List (kr.den×r.den)→Prop):Prop:=∃ l,es.map SF=l.map (cN kr ag r)∧K l
def vG (n:Nat) (seen:List Nat) (A:Prop) (B:Nat→Prop):Prop:=(cQ n seen=[]→A)∧∀ i,i∈cQ n seen→B i
def HQ (kr:Sy) (ag:Bool) (r:Sy) (es:List (Value×D)) (seen:List Nat) (K:kr.den→r.den→Prop):Prop:=∃ i x y,seen.getLast? = some i∧es[i]? = some (cN kr ag r (x,y))∧K x y
def eP (x y:a6) (K:Prop):Prop:=x=y∧K
def BC5 (A B:Prop):Prop:=A∧B
structure iS extends Combs where
 BDA:(kr:Sy)→(ag:Bool)→(r:Sy)→List (Value×D)→(List (kr.den×r.den)→Prop)→Prop
 each:Nat→List Nat→Prop→(Nat→Prop)→Prop
 ent:(kr:Sy)→(ag:Bool)→(r:Sy)→List (Value×D)→List Nat→(kr.den→r.den→Prop)→Prop
 same:a6→a6→Prop→Prop
 both:Prop→Prop→Prop
def bR:iS:={ mB with BDA:=dN,each:=vG,ent:=HQ,same:=eP,both:=BC5 }
section
variable (C : iS)
def exV:(r:Sy)→List T→(r.den→Prop)→Prop
 | .int k,row,K=>match row with
  | [.v (.int k' n)]=>match decide (k'=k) with
   | true=>K n
   | false=>C.bad 301
  | _=>C.bad 302
 | .bool,row,K=>match row with
  | [.v (.bool b)]=>K b
  | _=>C.bad 303
 | .str,row,K=>match row with
  | [.v (.string s)]=>K s
  | _=>C.bad 304
 | .any,row,K=>match row with
  | [x]=>K x
  | _=>C.bad 305
 | .pr a b,row,K=>exV a (row.take a.w) fun x=>exV b (row.drop a.w) fun y=>K (x,y)
 | .li r,row,K=>match row with
  | [.sl _ rows]=>C.dec r rows K
  | [.v (.slice none 0 0)]=>K []
  | [.ne _]=>K []
  | _=>C.bad 306
def sS (π:Nat→Nat→Bool) (k:Nat):Nat→List D→List D
 | _,[]=>[]
 | i,c::l=>(match π k i with
  | true=>.p (.sl false [])
  | false=>c)::sS π k (i+1) l
def BEE (τ:Nat→Option a6):Nat→List D→Nat
 | i,[]=>31600+i
 | i,c::l=>match gL τ 4 c with
  | some _=>BEE τ (i+1) l
  | none=>3160000+i*100+(match c with
   | .ptr _ _ _=>10
   | .own k=>match τ k with
    | some (.arr _ _ _)=>21
    | some _=>22
    | none=>20
   | .bs _ _ _=>30
   | .map _=>40
   | .it _=>50
   | .fn _ _ _=>60
   | .cond _ _=>70
   | .any=>80
   | _=>90)
def exI (τ:Nat→Option a6) (π:Nat→Nat→Bool) (st₀ st:St):(it:It)→(it.den→Prop)→Prop
 | .val t ag r,K=>match gL τ 4 (st.s t),ag with
  | some (.agg cs),true=>exV C r cs K
  | some (.v (.agg vs)),true=>exV C r (vs.toList.map .v) K
  | some x,false=>exV C r [x] K
  | _,_=>C.bad 311
 | .own t z r,K=>match st.s t with
  | .own k=>match st.σ k with
   | some (.arr ro z' rows)=>match !ro&&z' == z with
    | true=>C.dec r rows K
    | false=>C.bad 312
   | _=>C.bad 313
  | .p tt=>match eW tt with
   | some (true,[])=>K []
   | _=>C.bad 314
  | _=>C.bad 315
 | .box k r,K=>match st.σ k with
  | some (.rows ro [cells])=>match ro,(sS π k 0 cells).mapM (gL τ 4) with
   | false,some ts=>exV C r ts K
   | _,_=>C.bad (BEE τ 0 cells)
  | _=>C.bad 317
 | .map k kr ag r,K=>match st.σ k with
  | some (.map ro es)=>match ro with
   | false=>C.BDA kr ag r es K
   | true=>C.bad 318
  | _=>C.bad 319
 | .jV k,K=>match st.σ k with
  | some (.jV s pos)=>K (s,pos)
  | _=>C.bad 320
 | .mA k m,K=>match st.σ k with
  | some (.mA m' since seen last)=>match decide (m'=m) with
   | true=>K (since,seen,last)
   | false=>C.bad 321
  | _=>C.bad 322
 | .fix k,K=>match st.σ k,st₀.σ k with
  | some x,some y=>match e9 x with
   | true=>C.same x y (K ())
   | false=>C.bad 324
  | _,_=>C.bad 325
 | .arr k z r,K=>match st.σ k with
  | some (.arr ro z' rows)=>match !ro&&z' == z with
   | true=>C.dec r rows K
   | false=>C.bad 326
  | _=>C.bad 327
 | .bW k,K=>match st.σ k with
  | some (.bW es since seen last)=>K (es,since,seen,last)
  | _=>C.bad 323
 | .drop _,K=>K ()
 | .GX k o z r,K=>match st.σ k with
  | some (.rows false [cells])=>match cells[o]? with
   | some (.own k')=>match st.σ k' with
    | some (.arr ro z' rows)=>match !ro&&z' == z with
     | true=>C.dec r rows K
     | false=>C.bad 332
    | _=>C.bad 333
   | some (.p tt)=>match eW tt with
    | some (true,[])=>K []
    | _=>C.bad 334
   | _=>C.bad 335
  | _=>C.bad 336
def SL (τ:Nat→Option a6) (π:Nat→Nat→Bool) (st₀ st:St):(its:List It)→(EH.den its→Prop)→Prop
 | [],K=>K ()
 | it::l,K=>exI C τ π st₀ st it fun x=>SL τ π st₀ st l fun y=>K (x,y)
end
def yN (n:Nat):(its:List It)→EH.den its→Nat→Nat→D
 | [],_,_,_=>.any
 | .val t ag r::l,y,j,i=>match i == t with
  | true=>.p (aF ag r y.1)
  | false=>yN n l y.2 j i
 | .own t _ _::l,y,j,i=>match i == t with
  | true=>.own (n+j)
  | false=>yN n l y.2 (j+1) i
 | .box _ _::l,y,j,i=>yN n l y.2 j i
 | .map _ _ _ _::l,y,j,i=>yN n l y.2 j i
 | .jV _::l,y,j,i=>yN n l y.2 j i
 | .mA _ _::l,y,j,i=>yN n l y.2 j i
 | .fix _::l,y,j,i=>yN n l y.2 j i
 | .arr _ _ _::l,y,j,i=>yN n l y.2 j i
 | .bW _::l,y,j,i=>yN n l y.2 j i
 | .drop _::l,y,j,i=>yN n l y.2 j i
 | .GX _ _ _ _::l,y,j,i=>yN n l y.2 (j+1) i
def kN (f:Nat→List D→List D) (st₀:St):(its:List It)→EH.den its→Nat→Option a6
 | [],_,_=>none
 | .val _ _ _::l,y,i=>kN f st₀ l y.2 i
 | .own _ _ _::l,y,i=>kN f st₀ l y.2 i
 | .box k r::l,y,i=>match i == k with
  | true=>some (.rows false [f k ((r.enc y.1).map .p)])
  | false=>kN f st₀ l y.2 i
 | .map k kr ag r::l,y,i=>match i == k with
  | true=>some (.map false (y.1.map (cN kr ag r)))
  | false=>kN f st₀ l y.2 i
 | .jV k::l,y,i=>match i == k with
  | true=>some (.jV y.1.1 y.1.2)
  | false=>kN f st₀ l y.2 i
 | .mA k m::l,y,i=>match i == k with
  | true=>some (.mA m y.1.1 y.1.2.1 y.1.2.2)
  | false=>kN f st₀ l y.2 i
 | .fix k::l,y,i=>match i == k with
  | true=>st₀.σ k
  | false=>kN f st₀ l y.2 i
 | .arr k z r::l,y,i=>match i == k with
  | true=>some (.arr false z (y.1.map r.enc))
  | false=>kN f st₀ l y.2 i
 | .bW k::l,y,i=>match i == k with
  | true=>some (.bW y.1.1 y.1.2.1 y.1.2.2.1 y.1.2.2.2)
  | false=>kN f st₀ l y.2 i
 | .drop k::l,y,i=>match i == k with
  | true=>none
  | false=>kN f st₀ l y.2 i
 | .GX _ _ _ _::l,y,i=>kN f st₀ l y.2 i
def yM:(its:List It)→EH.den its→Nat→Option a6
 | [],_,_=>none
 | .own _ z r::l,y,j=>match j with
  | 0=>some (.arr false z (y.1.map r.enc))
  | j+1=>yM l y.2 j
 | .GX _ _ z r::l,y,j=>match j with
  | 0=>some (.arr false z (y.1.map r.enc))
  | j+1=>yM l y.2 j
 | .val _ _ _::l,y,j=>yM l y.2 j
 | .box _ _::l,y,j=>yM l y.2 j
 | .map _ _ _ _::l,y,j=>yM l y.2 j
 | .jV _::l,y,j=>yM l y.2 j
 | .mA _ _::l,y,j=>yM l y.2 j
 | .fix _::l,y,j=>yM l y.2 j
 | .arr _ _ _::l,y,j=>yM l y.2 j
 | .bW _::l,y,j=>yM l y.2 j
 | .drop _::l,y,j=>yM l y.2 j
def w5 (st:St) (k o:Nat):Option Nat:=match st.σ k with
 | some (.rows false [cells])=>match cells[o]? with
  | some (.own k')=>some k'
  | _=>none
 | _=>none
def o6:List It→Nat→Nat→Bool
 | [],_,_=>false
 | .GX k o _ _::l,k',o'=>(k' == k&&o' == o)||o6 l k' o'
 | _::l,k',o'=>o6 l k' o'
def MF (n:Nat):List It→Nat→Nat→List D→List D
 | [],_,_,row=>row
 | .own _ _ _::l,j,k,row=>MF n l (j+1) k row
 | .GX k' o _ _::l,j,k,row=>match k == k' with
  | true=>(MF n l (j+1) k row).set o (.own (n+j))
  | false=>MF n l (j+1) k row
 | _::l,j,k,row=>MF n l j k row
def iN:List It→St→List (Option Nat)
 | [],_=>[]
 | .own t _ _::l,st=>(match st.s t with
  | .own k=>some k
  | _=>none)::iN l st
 | .val _ _ _::l,st=>iN l st
 | .box _ _::l,st=>iN l st
 | .map _ _ _ _::l,st=>iN l st
 | .jV _::l,st=>iN l st
 | .mA _ _::l,st=>iN l st
 | .fix _::l,st=>iN l st
 | .arr _ _ _::l,st=>iN l st
 | .bW _::l,st=>iN l st
 | .drop _::l,st=>iN l st
 | .GX k o _ _::l,st=>w5 st k o::iN l st
def uU:List It→Nat
 | []=>0
 | .own _ _ _::l=>uU l+1
 | .val _ _ _::l=>uU l
 | .box _ _::l=>uU l
 | .map _ _ _ _::l=>uU l
 | .jV _::l=>uU l
 | .mA _ _::l=>uU l
 | .fix _::l=>uU l
 | .arr _ _ _::l=>uU l
 | .bW _::l=>uU l
 | .drop _::l=>uU l
 | .GX _ _ _ _::l=>uU l+1
theorem iO:∀ (its:List It) (st:St),(iN its st).length=uU its
 | [],_=>rfl
 | .own _ _ _::l,st=>by simp only[iN,uU,List.length_cons,iO l st]
 | .val _ _ _::l,st=>iO l st
 | .box _ _::l,st=>iO l st
 | .map _ _ _ _::l,st=>iO l st
 | .jV _::l,st=>iO l st
 | .mA _ _::l,st=>iO l st
 | .fix _::l,st=>iO l st
 | .arr _ _ _::l,st=>iO l st
 | .bW _::l,st=>iO l st
 | .drop _::l,st=>iO l st
 | .GX _ _ _ _::l,st=>by simp only[iN,uU,List.length_cons,iO l st]
def yU:List It→Nat→Bool
 | [],_=>false
 | .box k _::l,i=>i == k||yU l i
 | .map k _ _ _::l,i=>i == k||yU l i
 | .jV k::l,i=>i == k||yU l i
 | .mA k _::l,i=>i == k||yU l i
 | .fix k::l,i=>i == k||yU l i
 | .arr k _ _::l,i=>i == k||yU l i
 | .bW k::l,i=>i == k||yU l i
 | .drop k::l,i=>i == k||yU l i
 | .GX _ _ _ _::l,i=>yU l i
 | .val _ _ _::l,i=>yU l i
 | .own _ _ _::l,i=>yU l i
def HU (n:Nat):List It→Bool
 | []=>true
 | .mA _ (some m)::l=>decide (m<n)&&HU n l
 | _::l=>HU n l
def ZO:a6→Bool
 | .jV _ _=>false
 | .mA _ _ _ _=>false
 | .bW _ _ _ _=>false
 | _=>true
def ZG:List (Option Nat)→Nat→Bool
 | [],_=>false
 | some k::l,i=>i == k||ZG l i
 | none::l,i=>ZG l i
def kept (its:List It) (st₀:St) (k:Nat):Bool:=decide (k<st₀.n)&&match st₀.σ k with
 | some x=>!e9 x||(!yU its k && !ZG (iN its st₀) k&&ZO x)
 | none=>false
def apart:List (Option Nat)→Bool
 | []=>true
 | some k::l=>!ZG l k&&apart l
 | none::l=>apart l
def HG (its:List It) (st₀ st:St):Bool:=apart (iN its st)&&(iN its st).all (fun x=>match x with
 | some k=>!kept its st₀ k && !yU its k
 | none=>true)&&HU st₀.n its
def j4:List It→Nat→Bool
 | [],_=>false
 | .drop k::l,i=>i == k||j4 l i
 | .box k _::l,i=>!(i == k)&&j4 l i
 | .map k _ _ _::l,i=>!(i == k)&&j4 l i
 | .jV k::l,i=>!(i == k)&&j4 l i
 | .mA k _::l,i=>!(i == k)&&j4 l i
 | .fix k::l,i=>!(i == k)&&j4 l i
 | .arr k _ _::l,i=>!(i == k)&&j4 l i
 | .bW k::l,i=>!(i == k)&&j4 l i
 | .val _ _ _::l,i=>j4 l i
 | .own _ _ _::l,i=>j4 l i
 | .GX _ _ _ _::l,i=>j4 l i
def AWM (its:List It) (st₀ st:St) (k:Nat):Bool:=(decide (st₀.n≤k)||(!kept its st₀ k&&j4 its k)) && !ZG (iN its st) k
def AG6 (its:List It) (st₀ st:St):Nat→Option a6:=fun k=>match AWM its st₀ st k with
 | true=>st.σ k
 | false=>none
def AUM (C:iS) (st₀ st:St) (its:List It) (K:EH.den its→Prop):Prop:=SL C (AG6 its st₀ st) (o6 its) st₀ st its K
def zB (its:List It) (A:Nat→Bool) (st₀:St) (y:EH.den its):St :=
 ⟨fun i=>match A i with
  | true=>yN st₀.n its y 0 i
  | false=>st₀.s i,
  fun k=>match decide (k<st₀.n) with
  | true=>match kept its st₀ k with
   | true=>(st₀.σ k).map lock
   | false=>kN (MF st₀.n its 0) st₀ its y k
  | false=>yM its y (k-st₀.n),
  st₀.n+uU its⟩
def OD (its:List It) (st₀:St):St:=⟨st₀.s,fun k=>match kept its st₀ k with
 | true=>(st₀.σ k).map lock
 | false=>st₀.σ k,st₀.n⟩
def UZ (its:List It) (st₀ st:St):St:=⟨st.s,fun k=>match kept its st₀ k with
 | true=>st₀.σ k
 | false=>st.σ k,st.n⟩
def Wk (a b:List T):Prop:=a.length=b.length∧∀ (i:Nat) (x y:T),a[i]? = some x→b[i]? = some y→∀ (w:World) (own:Nat→Prop) (v:Value),cE w own x v→cE w own y v
theorem Wk.refl (a:List T):Wk a a:=⟨rfl,fun i x y hx hy=>by rw[hx] at hy;cases hy;exact fun _ _ _ h=>h⟩
theorem AYN {w:World} {own:Nat→Prop} {f:Bool} {rows:List (List T)} {v:Value} (h:cE w own (.sl f rows) v):cE w own (.sl false (jK rows)) v:=by
 cases h with
 | cH _ a cap hf hn=>exact .cH false a cap (by simp) hn
 | sl _ _ sz b o cap g h1 h2 h3 h4 h45 h5 h6 h7 h8 =>
  have hl:(jK rows).length=rows.length:=by simp[jK]
  rw[←hl]
  refine .sl false (jK rows) sz b o cap g (by omega) (by omega) (by simp) h4 h45 (fun r hr=>?_) h6 (fun i j hi hj=>h7 i j (by omega) hj) (fun i j hi hj=>?_)
  ·simp only[jK,List.mem_map] at hr
   obtain ⟨r',hr',rfl⟩:=hr
   simpa using h5 r' hr'
  ·have hi':i<rows.length:=by omega
   have hr:(jK rows)[i]=rows[i].map (T.canon 0):=by simp[jK]
   have hj':j<rows[i].length:=by rw[hr] at hj;simpa using hj
   have:(jK rows)[i][j]=T.canon 0 rows[i][j]:=by simp[jK]
   rw[this]
   exact (h8 i j hi' hj').canon 0
theorem rP:∀ {r:Sy} {row:List T} {K:r.den→Prop},exV bR r row K→∃ y,K y∧Wk row (r.enc y)
 | .int k,row,K,h=>by
  simp only[exV] at h
  split at h
  ·split at h
   ·rename_i hk
    have hk:=of_decide_eq_true hk
    subst hk
    exact ⟨_,h,Wk.refl _⟩
   ·exact h.elim
  ·exact h.elim
 | .bool,row,K,h=>by
  simp only[exV] at h
  split at h
  ·exact ⟨_,h,Wk.refl _⟩
  ·exact h.elim
 | .str,row,K,h=>by
  simp only[exV] at h
  split at h
  ·exact ⟨_,h,Wk.refl _⟩
  ·exact h.elim
 | .any,row,K,h=>by
  simp only[exV] at h
  split at h
  ·exact ⟨_,h,Wk.refl _⟩
  ·exact h.elim
 | .pr a b,row,K,h=>by
  simp only[exV] at h
  obtain ⟨x,h1,w1⟩:=rP h
  obtain ⟨y,h2,w2⟩:=rP h1
  refine ⟨(x,y),h2,?_,fun i u v hu hv=>?_⟩
  ·have l1:=w1.1
   have l2:=w2.1
   simp only[List.length_take,Sy.cP,List.length_drop] at l1 l2
   simp only[Sy.enc,List.length_append,Sy.cP]
   omega
  ·have l1:=w1.1
   simp only[List.length_take,Sy.cP] at l1
   simp only[Sy.enc] at hv
   by_cases hi:i<a.w
   ·rw[List.getElem?_append_left (by rw[Sy.cP];exact hi)] at hv
    exact w1.2 i u v (by rw[List.getElem?_take];simp[hi,hu]) hv
   ·rw[List.getElem?_append_right (by rw[Sy.cP];omega),Sy.cP] at hv
    exact w2.2 (i-a.w) u v (by rw[List.getElem?_drop];rw[show a.w+(i-a.w)=i by omega];exact hu) hv
 | .li r,row,K,h=>by
  simp only[exV] at h
  have one:∀ (u:T) (l:List r.den),(∀ w own v,cE w own u v→cE w own (.sl false (l.map r.enc)) v)→Wk [u] (Sy.enc (.li r) l):=by
   intro u l hw
   refine ⟨rfl,fun i x y hx hy=>?_⟩
   match i with
   | 0=>simp at hx;simp only[Sy.enc] at hy;simp at hy;subst hx;subst hy;exact hw
   | i+1=>simp at hx
  split at h
  ·rename_i f rows
   obtain ⟨l,h1,h2⟩:=h
   exact ⟨l,h2,one _ _ fun w own v hv=>by rw[←h1];exact AYN hv⟩
  ·refine ⟨[],h,one _ _ fun w own v hv=>?_⟩
   cases hv;exact .cH false none 0 (by simp) (by simp)
  ·refine ⟨[],h,one _ _ fun w own v hv=>?_⟩
   cases hv with
   | ne _ a cap hf=>exact .cH false (some a) cap (by simp) (by simp)
  ·exact h.elim
def OI:Loc:=⟨0,0,0,0,0⟩
structure AKY (τ:Nat→Option a6) (st:St) (cx:Cx) (ρ:Nat→Option Loc) (m:Nat) (w:World) (own':Nat→Prop):Prop where
 inv:Inv cx ρ st.σ m w
 sub:∀ b,own' b→Own cx ρ st.σ b
 tau:∀ k x,τ k=some x→st.σ k=some x
 dis:∀ k x l,τ k=some x→ρ k=some l→0<l.L+l.C→¬ own' l.bG
theorem AKY.gL {τ:Nat→Option a6} {st:St} {cx:Cx} {ρ:Nat→Option Loc} {m:Nat} {w:World} {own':Nat→Prop} (h:AKY τ st cx ρ m w own') {k:Nat} {d:D} {t:T} {v:Value} (hd:Rd w (Own cx ρ st.σ) ρ d v) (hf:Go.Pv.gL τ k d=some t):cE w own' t v :=
 z8 h.inv h.sub h.tau h.dis k hd hf
structure yS (n:Nat) (τ:Nat→Option a6) (sr:List (Option Nat)) (st:St) (x y:a6):Prop where
 ok:∀ (cx:Cx) (m:Nat) (w:World) (own':Nat→Prop) (ρ ρ':Nat→Option Loc) (l:Loc),(∀ k,k<n→ρ' k=ρ k)→(∀ j src,sr[j]? = some src→ρ' (n+j)=match src with
  | some k=>ρ k
  | none=>some OI)→AKY τ st cx ρ m w own'→jA w (Own cx ρ st.σ) ρ l x→jA w own' ρ' l y
 wr:e9 x=true
def BCZ (n:Nat) (τ:Nat→Option a6) (π:Nat→Nat→Bool) (sr:List (Option Nat)) (st₀ st:St):(it:It)→it.den→Prop
 | .val t ag r,y=>∀ cx m ρ w own' v,AKY τ st cx ρ m w own'→Rd w (Own cx ρ st.σ) ρ (st.s t) v→cE w own' (aF ag r y) v
 | .own t z r,y=>(∃ k rows,st.s t = .own k∧st.σ k=some (.arr false z rows)∧jK rows=List.map r.enc y)∨(y=([]:List r.den)∧∃ tt,st.s t = .p tt∧eW tt=some (true,[]))
 | .box k r,y=>∃ cells ts,st.σ k=some (.rows false [cells])∧(sS π k 0 cells).mapM (gL τ 4)=some ts∧Wk ts (r.enc y)
 | .map k kr ag r,y=>∃ x,st.σ k=some x∧yS n τ sr st x (.map false (List.map (cN kr ag r) y))
 | .jV k,y=>∃ x,st.σ k=some x∧yS n τ sr st x (.jV y.1 y.2)
 | .mA k m,y=>∃ x,st.σ k=some x∧yS n τ sr st x (.mA m y.1 y.2.1 y.2.2)
 | .fix k,_=>∃ x,st.σ k=some x∧st₀.σ k=some x∧e9 x=true
 | .arr k z r,y=>∃ x,st.σ k=some x∧yS n τ sr st x (.arr false z (List.map r.enc y))
 | .bW k,y=>∃ x,st.σ k=some x∧yS n τ sr st x (.bW y.1 y.2.1 y.2.2.1 y.2.2.2)
 | .drop _,_=>True
 | .GX k o z r,y=>∃ cells c,st.σ k=some (.rows false [cells])∧cells[o]? = some c∧((∃ k' rows,c = .own k'∧st.σ k'=some (.arr false z rows)∧jK rows=List.map r.enc y)∨(y=([]:List r.den)∧∃ tt,c = .p tt∧eW tt=some (true,[])))
def u5 (n:Nat) (τ:Nat→Option a6) (π:Nat→Nat→Bool) (sr:List (Option Nat)) (st₀ st:St):(its:List It)→EH.den its→Prop
 | [],_=>True
 | it::l,y=>BCZ n τ π sr st₀ st it y.1∧u5 n τ π sr st₀ st l y.2
def AHH (n:Nat) (st₀ st:St) (its:List It) (y:EH.den its):Prop:=u5 n (AG6 its st₀ st) (o6 its) (iN its st) st₀ st its y
theorem sU {π:Nat→Nat→Bool} {k:Nat}:∀ {cells:List D} {i:Nat},(sS π k i cells).length=cells.length
 | [],_=>rfl
 | c::l,i=>by simp only[sS,List.length_cons,sU (cells:=l)]
theorem KF {π:Nat→Nat→Bool} {k:Nat}:∀ {cells:List D} {i q:Nat} (h:q<cells.length),π k (i+q)=false→(sS π k i cells)[q]'(by rw[sU];exact h)=cells[q]
 | c::l,i,0,h,hp=>by
  simp only[sS,List.getElem_cons_zero]
  rw[show π k i=false from hp]
 | c::l,i,q+1,h,hp=>by
  simp only[sS,List.getElem_cons_succ]
  exact KF (by simpa using h) (by rw[←hp];congr 1;omega)
structure ATC (π:Nat→Nat→Bool) (n k:Nat) (sr:List (Option Nat)) (cells:List D) (base row:List D):Prop where
 len:row.length=base.length
 at_:∀ i c,row[i]? = some c→(π k i=false∧base[i]? = some c)∨(π k i=true∧∃ j src,c = .own (n+j)∧sr[j]? = some src∧((∃ k',cells[i]? = some (.own k')∧src=some k')∨(src=none∧∃ tt,cells[i]? = some (.p tt)∧eW tt=some (true,[]))))
theorem AAI {w:World} {own:Nat→Prop} {tt:T} {v:Value} (h:cE w own tt v) (hr:eW tt=some (true,[])):∃ a,v = .slice a 0 0:=by
 unfold eW at hr
 split at hr
 ·cases hr
  cases h with
  | cH _ a cap hf hn=>rw[hf rfl];exact ⟨a,rfl⟩
  | sl _ _ sz b o cap g h1 h2 h3 h4 h45 h5 h6 h7 h8=>have:=h3 rfl;simp at this;subst this;exact ⟨_,rfl⟩
 ·cases hr;cases h;exact ⟨none,rfl⟩
 ·cases hr
  cases h with
  | ne _ a cap hf=>exact ⟨some a,by rw[hf rfl]⟩
 ·cases hr
theorem U0 {w:World} {own:Nat→Prop} {a b:List T} (h:Wk a b) {v:Value} (hv:cE w own (.agg a) v):cE w own (.agg b) v:=by
 cases hv with
 | agg _ vs h1 h2 =>
  refine .agg b vs (by rw[h1,h.1]) fun i hi=>?_
  have hi':i<a.length:=by rw[h.1];exact hi
  exact h.2 i a[i] b[i] (by simp[hi']) (by simp[hi]) _ _ _ (h2 i hi')
theorem AZ6 {w:World} {own:Nat→Prop} {x:T} {b:List T} (h:Wk [x] b) {v:Value} (hv:cE w own x v):cE w own (hdT b) v:=by
 have hl:=h.1
 match b,hl with
 | [y],_=>exact h.2 0 x y rfl rfl _ _ _ hv
theorem AC7 {n k:Nat} {τ:Nat→Option a6} {π:Nat→Nat→Bool} {sr:List (Option Nat)} {st:St} {cells:List D} {ts ts':List T} {row:List D} (hm:(sS π k 0 cells).mapM (gL τ 4)=some ts) (h:Wk ts ts') (hw:ATC π n k sr cells (ts'.map .p) row):yS n τ sr st (.rows false [cells]) (.rows false [row]):=by
 refine ⟨fun cx m w own' ρ ρ' l hρ hs hzz hb=>?_,rfl⟩
 obtain ⟨m1,m2⟩:=mapM_some_length hm
 rw[sU] at m1
 refine ⟨fun h0=>?_,fun h0=>by obtain ⟨_,_,e⟩:=hb.2 h0;cases e⟩
 obtain ⟨o,h1,h2⟩:=hb.1 h0
 refine ⟨o,h1,?_⟩
 have hlen:row.length=cells.length:=by rw[hw.len,List.length_map,←h.1,m1]
 cases h2 with
 | rows _ rs c hr hz h2 =>
  cases hr
  refine .rows _ [row] c rfl (fun _ _ _ e=>by cases e) ⟨h2.size,h2.pos,h2.small,h2.len,h2.cnt,fun r hr=>?_,fun i j hi hj=>?_,h2.one⟩
  ·have:=h2.width cells (by simp)
   simp only[List.mem_singleton] at hr
   subst hr
   rw[hlen]
   exact this
  ·have hi0:i=0:=by simpa using hi
   subst hi0
   simp only[List.getElem_cons_zero] at hj
   have hj2:j<cells.length:=by omega
   have hj':j<ts.length:=by omega
   obtain ⟨v,e1,e2⟩:=h2.cell 0 j (by simp) (by simpa using hj2)
   refine ⟨v,e1,?_⟩
   simp only[List.getElem_cons_zero] at e2 ⊢
   rcases hw.at_ j row[j] (by simp[hj]) with ⟨p1,p2⟩|⟨p1,q,src,p2,p3,p4⟩
   ·have e3:row[j] = .p (ts'[j]'(by rw[←h.1];exact hj')):=by
     have:=List.getElem?_eq_some_iff.1 p2
     obtain ⟨_,g⟩:=this
     rw[←g,List.getElem_map]
    rw[e3]
    refine .p _ _ (h.2 j ts[j] _ (by simp[hj']) (by simp[h.1 ▸ hj']) _ _ _ (hzz.gL (k:=4) e2 ?_))
    have:=m2 j (by rw[sU];exact hj2) hj'
    rw[KF hj2 (by rw[Nat.zero_add];exact p1)] at this
    exact this
   ·rw[p2]
    have h3:=hs q src p3
    have hc:cells[j]? = some cells[j]:=by simp[hj2]
    rcases p4 with ⟨k',g1,rfl⟩|⟨rfl,tt,g1,g2⟩
    ·rw[hc] at g1
     rw[Option.some.inj g1] at e2
     simp only at h3
     cases e2 with
     | own _ lo hl hL h4 h5=>exact .own _ lo (h3.trans hl) hL h4 h5
     | dF _ lo a hl hL=>exact .dF _ lo a (h3.trans hl) hL
    ·rw[hc] at g1
     rw[Option.some.inj g1] at e2
     cases e2 with
     | p _ _ e2 =>
      obtain ⟨a,rfl⟩:=AAI e2 g2
      exact .dF _ OI a h3 rfl
theorem A2N {w:World} {own:Nat→Prop} {ρ:Nat→Option Loc} {e:Value×D} {v:Value} (h:Rd w own ρ e.2 v):Rd w own ρ (SF e).2 v:=by
 unfold SF
 split
 ·rename_i t ht
  rw[ht] at h
  cases h with
  | p _ _ h=>exact .p _ _ (h.canon 1)
 ·exact h
theorem ATT (e:Value×D):(SF e).1=e.1:=by unfold SF;split<;>rfl
theorem ALL {n:Nat} {τ:Nat→Option a6} {sr:List (Option Nat)} {st:St} {es:List (Value×D)} {kr:Sy} {ag:Bool} {r:Sy} {l:List (kr.den×r.den)} (h:es.map SF=l.map (cN kr ag r)):yS n τ sr st (.map false es) (.map false (l.map (cN kr ag r))):=by
 refine ⟨fun cx m w own' ρ ρ' lo hρ _ hz hb=>?_,rfl⟩
 refine ⟨fun h0=>?_,fun h0=>by obtain ⟨_,_,e⟩:=hb.2 h0;cases e⟩
 obtain ⟨o,h1,h2⟩:=hb.1 h0
 refine ⟨o,h1,?_⟩
 cases h2 with
 | rows _ rs c hr hz h2=>simp[dL] at hr
 | map _ _ ents e1 e2 =>
  have hlen:es.length=(l.map (cN kr ag r)).length:=by rw[←h];simp
  rw[hlen]
  refine .map false _ ents (by omega) fun i hi=>?_
  have hi':i<es.length:=by omega
  obtain ⟨e,g1,g2,g3,g4⟩:=e2 i hi'
  have he:(l.map (cN kr ag r))[i]=SF es[i]:=by
   have:(es.map SF)[i]'(by simpa using hi')=(l.map (cN kr ag r))[i]:=by congr 1
   rw[←this];simp
  have hp:∃ t,(l.map (cN kr ag r))[i].2 = .p t:=by simp only[List.getElem_map];exact ⟨_,rfl⟩
  refine ⟨e,g1,?_,g3,?_⟩
  ·rw[he,ATT];exact g2
  ·have g5:=A2N g4
   rw[←he] at g5
   obtain ⟨t,ht⟩:=hp
   rw[ht] at g5 ⊢
   cases g5 with
   | p _ _ g5=>exact .p _ _ (g5.less hz.sub)
theorem KH {w:World} {own own':Nat→Prop} {ρ ρ':Nat→Option Loc} {l:Loc} {ro:Bool} {z:Nat} {rows:List (List T)} (ho:∀ b,own' b→own b) (h:jA w own ρ l (.arr ro z rows)):jA w own' ρ' l (.arr ro z (jK rows)):=by
 refine ⟨fun h0=>?_,fun h0=>?_⟩
 ·obtain ⟨o,h1,h2⟩:=h.1 h0
  refine ⟨o,h1,?_⟩
  cases h2 with
  | rows _ rs c hr hz h2 =>
   cases hr
   have hl:(aT (jK rows)).length=(aT rows).length:=by simp[aT,jK]
   refine .rows _ (aT (jK rows)) c rfl (fun _ _ _ e=>by cases e;exact hz _ _ _ rfl) ⟨h2.size,h2.pos,by have:=h2.small;omega,by have:=h2.len;omega,by have:=h2.cnt;omega,fun r hr=>?_,fun i j hi hj=>?_,h2.one⟩
   ·simp only[aT,jK,List.map_map,List.mem_map,Function.comp] at hr
    obtain ⟨r',hr',rfl⟩:=hr
    have:=h2.width (r'.map .p) (by simp only[aT,List.mem_map];exact ⟨r',hr',rfl⟩)
    simpa using this
   ·have hi':i<rows.length:=by simpa [aT,jK] using hi
    have e1:(aT (jK rows))[i]=(rows[i].map (T.canon 0)).map .p:=by simp[aT,jK]
    have hj':j<rows[i].length:=by rw[e1] at hj;simpa using hj
    have e3:(aT rows)[i]'(by simpa using hi')=rows[i].map .p:=by simp[aT]
    obtain ⟨v,g1,g2⟩:=h2.cell i j (by simpa using hi') (by rw[e3];simpa using hj')
    refine ⟨v,g1,?_⟩
    have e2:(aT (jK rows))[i][j] = .p (T.canon 0 rows[i][j]):=by simp[aT,jK]
    have e4:((aT rows)[i]'(by simpa using hi'))[j]'(by rw[e3];simpa using hj') = .p rows[i][j]:=by simp[aT]
    rw[e4] at g2
    rw[e2]
    cases g2 with
    | p _ _ g2=>exact .p _ _ ((g2.canon 0).less ho)
 ·obtain ⟨_,_,e⟩:=h.2 h0
  cases e
  exact ⟨_,_,rfl⟩
theorem AUL {n:Nat} {τ:Nat→Option a6} {π:Nat→Nat→Bool} {sr:List (Option Nat)} {st₀ st:St} {it:It} {K:it.den→Prop} (hm:HU n [it]=true) (h:exI bR τ π st₀ st it K):∃ y,K y∧BCZ n τ π sr st₀ st it y:=by
 cases it with
 | val t ag r =>
  simp only[exI] at h
  split at h
  ·rename_i cs hs
   obtain ⟨y,h1,h2⟩:=rP h
   exact ⟨y,h1,fun cx m ρ w own' v hz hv=>U0 h2 (hz.gL hv hs)⟩
  ·rename_i vs hs
   obtain ⟨y,h1,h2⟩:=rP h
   refine ⟨y,h1,fun cx m ρ w own' v hz hv=>?_⟩
   have hv:=hz.gL hv hs
   cases hv
   exact U0 h2 (.agg _ _ (cT.vs (R:=cE w own') (g:=T.v) .v _).1 (cT.vs (R:=cE w own') (g:=T.v) .v _).2)
  ·rename_i x hs
   obtain ⟨y,h1,h2⟩:=rP h
   exact ⟨y,h1,fun cx m ρ w own' v hz hv=>AZ6 h2 (hz.gL hv hs)⟩
  ·exact h.elim
 | own t z r =>
  simp only[exI] at h
  split at h
  ·rename_i k hs
   split at h
   ·rename_i ro z' rows hσ
    split at h
    ·rename_i hc
     simp only[Bool.and_eq_true,Bool.not_eq_true',beq_iff_eq] at hc
     obtain ⟨rfl,rfl⟩:=hc
     obtain ⟨l,h1,h2⟩:=h
     exact ⟨l,h2,.inl ⟨k,rows,hs,hσ,h1⟩⟩
    ·exact h.elim
   ·exact h.elim
  ·rename_i tt hs
   split at h
   ·rename_i hr
    exact ⟨[],h,.inr ⟨rfl,tt,hs,hr⟩⟩
   ·exact h.elim
  ·exact h.elim
 | box k r =>
  simp only[exI] at h
  split at h
  ·rename_i ro cells hσ
   split at h
   ·rename_i ts hts
    obtain ⟨y,h1,h2⟩:=rP h
    exact ⟨y,h1,cells,ts,hσ,hts,h2⟩
   ·exact h.elim
  ·exact h.elim
 | map k kr ag r =>
  simp only[exI] at h
  split at h
  ·rename_i ro es hσ
   split at h
   ·obtain ⟨l,h1,h2⟩:=h
    exact ⟨l,h2,_,hσ,ALL h1⟩
   ·exact h.elim
  ·exact h.elim
 | jV k =>
  simp only[exI] at h
  split at h
  ·rename_i s pos hσ
   exact ⟨(s,pos),h,_,hσ,fun cx m w own' ρ ρ' l hρ _ hz hb=>hb.cut hρ hz.sub trivial,rfl⟩
  ·exact h.elim
 | mA k m =>
  simp only[exI] at h
  split at h
  ·rename_i m' since seen last hσ
   split at h
   ·rename_i hm'
    have hm':=of_decide_eq_true hm'
    subst hm'
    refine ⟨(since,seen,last),h,_,hσ,fun cx m w own' ρ ρ' l hρ _ hz hb=>hb.cut hρ hz.sub ?_,rfl⟩
    intro km hkm
    subst hkm
    simpa [HU] using hm
   ·exact h.elim
  ·exact h.elim
 | fix k =>
  simp only[exI] at h
  split at h
  ·rename_i x y hx hy
   split at h
   ·rename_i hw
    obtain ⟨rfl,h⟩:=h
    exact ⟨(),h,_,hx,hy,hw⟩
   ·exact h.elim
  ·exact h.elim
 | arr k z r =>
  simp only[exI] at h
  split at h
  ·rename_i ro z' rows hσ
   split at h
   ·rename_i hc
    simp only[Bool.and_eq_true,Bool.not_eq_true',beq_iff_eq] at hc
    obtain ⟨rfl,rfl⟩:=hc
    obtain ⟨l,h1,h2⟩:=h
    refine ⟨l,h2,_,hσ,fun cx m w own' ρ ρ' lo hρ _ hz hb=>?_,rfl⟩
    rw[←h1]
    exact KH hz.sub hb
   ·exact h.elim
  ·exact h.elim
 | bW k =>
  simp only[exI] at h
  split at h
  ·rename_i es since seen last hσ
   exact ⟨(es,since,seen,last),h,_,hσ,fun cx m w own' ρ ρ' l hρ _ hz hb=>hb.cut hρ hz.sub trivial,rfl⟩
  ·exact h.elim
 | drop k=>exact ⟨(),h,trivial⟩
 | GX k o z r =>
  simp only[exI] at h
  split at h
  ·rename_i cells hσ
   split at h
   ·rename_i k' hc
    split at h
    ·rename_i ro z' rows hσ'
     split at h
     ·rename_i hw
      simp only[Bool.and_eq_true,Bool.not_eq_true',beq_iff_eq] at hw
      obtain ⟨rfl,rfl⟩:=hw
      obtain ⟨l,h1,h2⟩:=h
      exact ⟨l,h2,cells,_,hσ,hc,.inl ⟨k',rows,rfl,hσ',h1⟩⟩
     ·exact h.elim
    ·exact h.elim
   ·rename_i tt hc
    split at h
    ·rename_i hr
     exact ⟨[],h,cells,_,hσ,hc,.inr ⟨rfl,tt,rfl,hr⟩⟩
    ·exact h.elim
   ·exact h.elim
  ·exact h.elim
theorem ANT {n:Nat} {it:It} {l:List It} (h:HU n (it::l)=true):HU n [it]=true∧HU n l=true:=by
 cases it with
 | mA k m=>cases m<;>simp[HU] at h ⊢ <;> exact h
 | _=>exact ⟨rfl,h⟩
theorem G1 {n:Nat} {τ:Nat→Option a6} {π:Nat→Nat→Bool} {sr:List (Option Nat)} {st₀ st:St}:∀ {its:List It} {K:EH.den its→Prop},HU n its=true→SL bR τ π st₀ st its K→∃ y,K y∧u5 n τ π sr st₀ st its y
 | [],K,_,h=>⟨(),h,trivial⟩
 | it::l,K,hm,h=>by
  obtain ⟨m1,m2⟩:=ANT hm
  simp only[SL] at h
  obtain ⟨x,h1,h2⟩:=AUL (sr:=sr) m1 h
  obtain ⟨y,h3,h4⟩:=G1 (sr:=sr) m2 h1
  exact ⟨(x,y),h3,h2,h4⟩
theorem KX {n:Nat} {st₀ st:St} {its:List It} {K:EH.den its→Prop} (hm:HU n its=true) (h:AUM bR st₀ st its K):∃ y,K y∧AHH n st₀ st its y:=G1 hm h
end Go.Pv
