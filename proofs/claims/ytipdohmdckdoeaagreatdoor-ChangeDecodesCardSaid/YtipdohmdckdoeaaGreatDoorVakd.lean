/-
  The symbolic executor, part d: where ways come together: a state of which only typed data are known.
-/
import Derived.Test.YtipdohmdckdoeaaGreatDoorVakc
set_option linter.defProp false
set_option linter.unusedSimpArgs false
namespace Go.Pv
open Go Go.RowKit
inductive DF (n:Nat):D→Prop
 | p (t:T):DF n (.p t)
 | agg (cs:List D):(∀ i (h:i<cs.length),DF n cs[i])→DF n (.agg cs)
 | bN (cs:List D):(∀ i (h:i<cs.length),DF n cs[i])→DF n (.bN cs)
 | ptr (k i j:Nat):k<n→DF n (.ptr k i j)
 | own (k:Nat):k<n→DF n (.own k)
 | bs (k o l:Nat):k<n→DF n (.bs k o l)
 | map (k:Nat):k<n→DF n (.map k)
 | it (k:Nat):k<n→DF n (.it k)
 | fn (f:FuncId) (a b:List D):(∀ i (h:i<a.length),DF n a[i])→(∀ i (h:i<b.length),DF n b[i])→DF n (.fn f a b)
 | kX (g:Bool) (d:D):DF n d→DF n (.cond g d)
 | rZ (d:D):DF n (.cond false d)
 | any:DF n .any
section
variable {w : World} {own own' : Nat → Prop} {ρ ρ' : Nat → Option Loc} {n : Nat}
theorem Rd.blw (hρ:∀ k l,ρ k=some l→k<n) {d:D} {v:Value} (h:Rd w own ρ d v):DF n d:=by
 induction h with
 | p t x h=>exact .p t
 | agg cs vs hs _ ih=>exact .agg cs ih
 | bN cs vs hs _ ih=>exact .bN cs ih
 | ptr k i j l h=>exact .ptr k i j (hρ _ _ h)
 | own k l h h0 h2 h3=>exact .own k (hρ _ _ h)
 | cE k l a h h0=>exact .own k (hρ _ _ h)
 | bs k off len l h h2 h3=>exact .bs k off len (hρ _ _ h)
 | map k l h=>exact .map k (hρ _ _ h)
 | it k l h=>exact .it k (hρ _ _ h)
 | fn f fs cs va vb h1 h2 _ _ ih1 ih2=>exact .fn f fs cs ih1 ih2
 | kX d v _ ih=>exact .kX _ d ih
 | rZ d=>exact .rZ d
 | any v=>exact .any
theorem Rd.cut (hρ:∀ k,k<n→ρ' k=ρ k) (ho:∀ b,own' b→own b) {d:D} {v:Value} (h:Rd w own ρ d v) (hb:DF n d):Rd w own' ρ' d v:=by
 induction h with
 | p t x h=>exact .p t x (h.less ho)
 | agg cs vs hs _ ih=>cases hb with|agg _ hb=>exact .agg cs vs hs fun i hi=>ih i hi (hb i hi)
 | bN cs vs hs _ ih=>cases hb with|bN _ hb=>exact .bN cs vs hs fun i hi=>ih i hi (hb i hi)
 | ptr k i j l h=>cases hb with|ptr _ _ _ hk=>exact .ptr k i j l ((hρ k hk).trans h)
 | own k l h h0 h2 h3=>cases hb with|own _ hk=>exact .own k l ((hρ k hk).trans h) h0 h2 h3
 | cE k l a h h0=>cases hb with|own _ hk=>exact .cE k l a ((hρ k hk).trans h) h0
 | bs k off len l h h2 h3=>cases hb with|bs _ _ _ hk=>exact .bs k off len l ((hρ k hk).trans h) h2 h3
 | map k l h=>cases hb with|map _ hk=>exact .map k l ((hρ k hk).trans h)
 | it k l h=>cases hb with|it _ hk=>exact .it k l ((hρ k hk).trans h)
 | fn f fs cs va vb h1 h2 _ _ ih1 ih2=>cases hb with|fn _ _ _ hb1 hb2=>exact .fn f fs cs va vb h1 h2 (fun i hi=>ih1 i hi (hb1 i hi)) (fun i hi=>ih2 i hi (hb2 i hi))
 | kX d v _ ih=>cases hb with|kX _ _ hb=>exact .kX d v (ih hb)
 | rZ d=>exact .rZ d
 | any v=>exact .any v
end
def FP (n:Nat):aK→Prop
 | .rows _ rs=>∀ i (hi:i<rs.length) j (hj:j<rs[i].length),DF n rs[i][j]
 | .arr _ _ _=>True
 | .map _ es=>∀ i (h:i<es.length),DF n es[i].2
 | .kN _ _=>True
 | .iL m _ _ _=>∀ k,m=some k→k<n
 | .dB _ _ _ _=>True
 | .held=>True
def lock:aK→aK
 | .rows _ rs=>.rows true rs
 | .arr _ z rows=>.arr true z rows
 | .map _ es=>.map true es
 | x=>x
section
variable {w : World} {own own' : Nat → Prop} {ρ ρ' : Nat → Option Loc} {n : Nat} {l : Loc} {x y : aK}
theorem fK.blw (hρ:∀ k l,ρ k=some l→k<n) (h:fK w own ρ l x):FP n x:=by
 rcases Nat.eq_zero_or_pos (l.L+l.C) with h0|h0
 ·obtain ⟨ro,z,rfl⟩:=h.2 h0;trivial
 ·obtain ⟨o,_,hb⟩:=h.1 h0
  cases hb with
  | rows _ rs c hr hz h' =>
   cases x with
   | rows ro rs'=>cases hr;exact fun i hi j hj=>let ⟨v,_,hv⟩:=h'.cell i j hi hj;hv.blw hρ
   | arr ro z rows=>trivial
   | _=>simp[cI] at hr
  | map ro es ents h1 h2=>exact fun i hi=>let ⟨e,_,_,_,hv⟩:=h2 i hi;hv.blw hρ
  | kN s pos=>trivial
  | iL m l' since seen last h'=>exact fun k hk=>by cases hk;exact hρ _ _ h'
  | lO=>exact fun k hk=>by cases hk
  | dB=>trivial
  | held o=>trivial
theorem ACI {rows:List (List T)} {i j:Nat} (hi:i<(aC rows).length) (hj:j<(aC rows)[i].length):∃ t,(aC rows)[i][j] = .p t:=by
 simp only[aC,List.getElem_map];exact ⟨_,rfl⟩
theorem fK.cut (hρ:∀ k,k<n→ρ' k=ρ k) (ho:∀ b,own' b→own b) (h:fK w own ρ l x) (hb:FP n x):fK w own' ρ' l x:=by
 refine ⟨fun h0=>?_,h.2⟩
 obtain ⟨o,ho',hx⟩:=h.1 h0
 refine ⟨o,ho',?_⟩
 cases hx with
 | rows _ rs c hr hz h' =>
  refine .rows x rs c hr hz ⟨h'.size,h'.pos,h'.small,h'.len,h'.IG,h'.width,fun i j hi hj=>?_,h'.one⟩
  obtain ⟨v,h1,h2⟩:=h'.cell i j hi hj
  refine ⟨v,h1,h2.cut hρ ho ?_⟩
  cases x with
  | rows ro rs'=>cases hr;exact hb i hi j hj
  | arr ro z rows=>cases hr;obtain ⟨t,ht⟩:=ACI hi hj;rw[ht];exact .p t
  | _=>simp[cI] at hr
 | map ro es ents h1 h2=>exact .map ro es ents h1 fun i hi=>let ⟨e,a,b,c,hv⟩:=h2 i hi;⟨e,a,b,c,hv.cut hρ ho (hb i hi)⟩
 | kN s pos=>exact .kN s pos
 | iL m l' since seen last h'=>exact .iL m l' since seen last ((hρ m (hb m rfl)).trans h')
 | lO=>exact .lO
 | dB es b since seen last h'=>exact .dB es b since seen last (h'.less ho)
 | held o=>exact .held o
theorem fK.HS (hxy:lock x=lock y) (h:fK w own ρ l x):fK w own ρ l y:=by
 refine ⟨fun h0=>?_,fun h0=>?_⟩
 ·obtain ⟨o,ho',hx⟩:=h.1 h0
  refine ⟨o,ho',?_⟩
  cases hx with
  | rows _ rs c hr hz h' =>
   cases x with
   | rows ro rs' =>
    cases y<;>simp only[lock,aK.rows.injEq,reduceCtorEq] at hxy
    obtain ⟨_,rfl⟩:=hxy
    exact .rows _ rs c hr (fun _ _ _ e=>by cases e) h'
   | arr ro z rows =>
    cases y<;>simp only[lock,aK.arr.injEq,reduceCtorEq] at hxy
    obtain ⟨_,rfl,rfl⟩:=hxy
    exact .rows _ rs c hr (fun _ _ _ e=>by cases e;exact hz _ _ _ rfl) h'
   | _=>simp[cI] at hr
  | map ro es ents h1 h2 =>
   cases y<;>simp only[lock,aK.map.injEq,reduceCtorEq] at hxy
   obtain ⟨_,rfl⟩:=hxy
   exact .map _ es ents h1 h2
  | kN s pos=>cases y<;>simp only[lock,reduceCtorEq] at hxy;cases hxy;exact .kN s pos
  | iL m l' since seen last h'=>cases y<;>simp only[lock,reduceCtorEq] at hxy;cases hxy;exact .iL m l' since seen last h'
  | lO=>cases y<;>simp only[lock,reduceCtorEq] at hxy;cases hxy;exact .lO
  | dB es b since seen last h'=>cases y<;>simp only[lock,reduceCtorEq] at hxy;cases hxy;exact .dB es b since seen last h'
  | held o=>cases y<;>simp only[lock,reduceCtorEq] at hxy;exact .held o
 ·obtain ⟨ro,z,rfl⟩:=h.2 h0
  cases y<;>simp only[lock,aK.arr.injEq,reduceCtorEq] at hxy
  obtain ⟨_,rfl,rfl⟩:=hxy
  exact ⟨_,_,rfl⟩
theorem pS (x:aK):lock (lock x)=lock x:=by cases x<;>rfl
theorem ABX (h:dP x=false):dP (lock x)=false:=by cases x<;>first|rfl|exact h
end
inductive It where
 | val (t:Tmp) (ag:Bool) (r:Sy)
 | own (t:Tmp) (z:Nat) (r:Sy)
 | box (k:Nat) (r:Sy)
 | map (k:Nat) (kr:Sy) (ag:Bool) (r:Sy)
 | kN (k:Nat)
 | iL (k:Nat) (m:Option Nat)
 | fix (k:Nat)
 | arr (k:Nat) (z:Nat) (r:Sy)
 | dB (k:Nat)
 | drop (k:Nat)
 | wS (k o z:Nat) (r:Sy)
abbrev It.den:It→Type
 | .val _ _ r=>r.den
 | .own _ _ r=>List r.den
 | .box _ r=>r.den
 | .map _ kr _ r=>List (kr.den×r.den)
 | .kN _=>ByteArray×Nat
 | .iL _ _=>Nat×List Nat×Nat
 | .fix _=>Unit
 | .arr _ _ r=>List r.den
 | .dB _=>List (Value×T)×Nat×List Nat×Nat
 | .drop _=>Unit
 | .wS _ _ _ r=>List r.den
abbrev wP.den:List It→Type
 | []=>Unit
 | a::l=>a.den×wP.den l
def SY (kr:Sy) (x:kr.den):Value:=match hdT (kr.enc x) with
 | .v x=>x
 | _=>undef
def dE (kr:Sy) (ag:Bool) (r:Sy) (e:kr.den×r.den):Value×D:=(SY kr e.1,.p (aG ag r e.2))
def GP (e:Value×D):Value×D:=match e.2 with
 | .p t=>(e.1,.p (t.canon 1))
 | _=>e
def iG (kr:Sy) (ag:Bool) (r:Sy) (es:List (Value×D)) (K:List (kr.den×r.den)→Prop):Prop:=∃ l,es.map GP=l.map (dE kr ag r)∧K l
def PG (n:Nat) (seen:List Nat) (A:Prop) (B:Nat→Prop):Prop:=(bQ n seen=[]→A)∧∀ i,i∈bQ n seen→B i
def VY (kr:Sy) (ag:Bool) (r:Sy) (es:List (Value×D)) (seen:List Nat) (K:kr.den→r.den→Prop):Prop:=∃ i x y,seen.getLast? = some i∧es[i]? = some (dE kr ag r (x,y))∧K x y
def AHG (x y:aK) (K:Prop):Prop:=x=y∧K
def PB (A B:Prop):Prop:=A∧B
structure iB extends Combs where
 AF9:(kr:Sy)→(ag:Bool)→(r:Sy)→List (Value×D)→(List (kr.den×r.den)→Prop)→Prop
 each:Nat→List Nat→Prop→(Nat→Prop)→Prop
 ent:(kr:Sy)→(ag:Bool)→(r:Sy)→List (Value×D)→List Nat→(kr.den→r.den→Prop)→Prop
 same:aK→aK→Prop→Prop
 both:Prop→Prop→Prop
def b9:iB:={ jA with AF9:=iG,each:=PG,ent:=VY,same:=AHG,both:=PB }
section
variable (C : iB)
def SB:(r:Sy)→List T→(r.den→Prop)→Prop
 | .int k,row,K=>match row with
  | [.v (.int k' n)]=>match decide (k'=k) with
   | true=>K n
   | false=>C.bad 301
  | _=>C.bad 302
 | .bool,row,K=>match row with
  | [.v (.bool b)]=>K b
  | _=>C.bad 303
 | .str,row,K=>match row with
  | [.v (.string s)]=>K s
  | _=>C.bad 304
 | .any,row,K=>match row with
  | [x]=>K x
  | _=>C.bad 305
 | .pr a b,row,K=>SB a (row.take a.w) fun x=>SB b (row.drop a.w) fun y=>K (x,y)
 | .li r,row,K=>match row with
  | [.sl _ rows]=>C.dec r rows K
  | [.v (.slice none 0 0)]=>K []
  | [.ne _]=>K []
  | _=>C.bad 306
def mK (π:Nat→Nat→Bool) (k:Nat):Nat→List D→List D
 | _,[]=>[]
 | i,c::l=>(match π k i with
  | true=>.p (.sl false [])
  | false=>c)::mK π k (i+1) l
def AHM (τ:Nat→Option aK):Nat→List D→Nat
 | i,[]=>31600+i
 | i,c::l=>match eO τ 4 c with
  | some _=>AHM τ (i+1) l
  | none=>3160000+i*100+(match c with
   | .ptr _ _ _=>10
   | .own k=>match τ k with
    | some (.arr _ _ _)=>21
    | some _=>22
    | none=>20
   | .bs _ _ _=>30
   | .map _=>40
   | .it _=>50
   | .fn _ _ _=>60
   | .cond _ _=>70
   | .any=>80
   | _=>90)
def UJ (τ:Nat→Option aK) (π:Nat→Nat→Bool) (st₀ st:St):(it:It)→(it.den→Prop)→Prop
 | .val t ag r,K=>match eO τ 4 (st.s t),ag with
  | some (.agg cs),true=>SB C r cs K
  | some (.v (.agg vs)),true=>SB C r (vs.toList.map .v) K
  | some x,false=>SB C r [x] K
  | _,_=>C.bad 311
 | .own t z r,K=>match st.s t with
  | .own k=>match st.σ k with
   | some (.arr ro z' rows)=>match !ro&&z' == z with
    | true=>C.dec r rows K
    | false=>C.bad 312
   | _=>C.bad 313
  | .p tt=>match dF tt with
   | some (true,[])=>K []
   | _=>C.bad 314
  | _=>C.bad 315
 | .box k r,K=>match st.σ k with
  | some (.rows ro [cells])=>match ro,(mK π k 0 cells).mapM (eO τ 4) with
   | false,some ts=>SB C r ts K
   | _,_=>C.bad (AHM τ 0 cells)
  | _=>C.bad 317
 | .map k kr ag r,K=>match st.σ k with
  | some (.map ro es)=>match ro with
   | false=>C.AF9 kr ag r es K
   | true=>C.bad 318
  | _=>C.bad 319
 | .kN k,K=>match st.σ k with
  | some (.kN s pos)=>K (s,pos)
  | _=>C.bad 320
 | .iL k m,K=>match st.σ k with
  | some (.iL m' since seen last)=>match decide (m'=m) with
   | true=>K (since,seen,last)
   | false=>C.bad 321
  | _=>C.bad 322
 | .fix k,K=>match st.σ k,st₀.σ k with
  | some x,some y=>match dP x with
   | true=>C.same x y (K ())
   | false=>C.bad 324
  | _,_=>C.bad 325
 | .arr k z r,K=>match st.σ k with
  | some (.arr ro z' rows)=>match !ro&&z' == z with
   | true=>C.dec r rows K
   | false=>C.bad 326
  | _=>C.bad 327
 | .dB k,K=>match st.σ k with
  | some (.dB es since seen last)=>K (es,since,seen,last)
  | _=>C.bad 323
 | .drop _,K=>K ()
 | .wS k o z r,K=>match st.σ k with
  | some (.rows false [cells])=>match cells[o]? with
   | some (.own k')=>match st.σ k' with
    | some (.arr ro z' rows)=>match !ro&&z' == z with
     | true=>C.dec r rows K
     | false=>C.bad 332
    | _=>C.bad 333
   | some (.p tt)=>match dF tt with
    | some (true,[])=>K []
    | _=>C.bad 334
   | _=>C.bad 335
  | _=>C.bad 336
def GW (τ:Nat→Option aK) (π:Nat→Nat→Bool) (st₀ st:St):(its:List It)→(wP.den its→Prop)→Prop
 | [],K=>K ()
 | it::l,K=>UJ C τ π st₀ st it fun x=>GW τ π st₀ st l fun y=>K (x,y)
end
def p7 (n:Nat):(its:List It)→wP.den its→Nat→Nat→D
 | [],_,_,_=>.any
 | .val t ag r::l,y,j,i=>match i == t with
  | true=>.p (aG ag r y.1)
  | false=>p7 n l y.2 j i
 | .own t _ _::l,y,j,i=>match i == t with
  | true=>.own (n+j)
  | false=>p7 n l y.2 (j+1) i
 | .box _ _::l,y,j,i=>p7 n l y.2 j i
 | .map _ _ _ _::l,y,j,i=>p7 n l y.2 j i
 | .kN _::l,y,j,i=>p7 n l y.2 j i
 | .iL _ _::l,y,j,i=>p7 n l y.2 j i
 | .fix _::l,y,j,i=>p7 n l y.2 j i
 | .arr _ _ _::l,y,j,i=>p7 n l y.2 j i
 | .dB _::l,y,j,i=>p7 n l y.2 j i
 | .drop _::l,y,j,i=>p7 n l y.2 j i
 | .wS _ _ _ _::l,y,j,i=>p7 n l y.2 (j+1) i
def gM (f:Nat→List D→List D) (st₀:St):(its:List It)→wP.den its→Nat→Option aK
 | [],_,_=>none
 | .val _ _ _::l,y,i=>gM f st₀ l y.2 i
 | .own _ _ _::l,y,i=>gM f st₀ l y.2 i
 | .box k r::l,y,i=>match i == k with
  | true=>some (.rows false [f k ((r.enc y.1).map .p)])
  | false=>gM f st₀ l y.2 i
 | .map k kr ag r::l,y,i=>match i == k with
  | true=>some (.map false (y.1.map (dE kr ag r)))
  | false=>gM f st₀ l y.2 i
 | .kN k::l,y,i=>match i == k with
  | true=>some (.kN y.1.1 y.1.2)
  | false=>gM f st₀ l y.2 i
 | .iL k m::l,y,i=>match i == k with
  | true=>some (.iL m y.1.1 y.1.2.1 y.1.2.2)
  | false=>gM f st₀ l y.2 i
 | .fix k::l,y,i=>match i == k with
  | true=>st₀.σ k
  | false=>gM f st₀ l y.2 i
 | .arr k z r::l,y,i=>match i == k with
  | true=>some (.arr false z (y.1.map r.enc))
  | false=>gM f st₀ l y.2 i
 | .dB k::l,y,i=>match i == k with
  | true=>some (.dB y.1.1 y.1.2.1 y.1.2.2.1 y.1.2.2.2)
  | false=>gM f st₀ l y.2 i
 | .drop k::l,y,i=>match i == k with
  | true=>none
  | false=>gM f st₀ l y.2 i
 | .wS _ _ _ _::l,y,i=>gM f st₀ l y.2 i
def p6:(its:List It)→wP.den its→Nat→Option aK
 | [],_,_=>none
 | .own _ z r::l,y,j=>match j with
  | 0=>some (.arr false z (y.1.map r.enc))
  | j+1=>p6 l y.2 j
 | .wS _ _ z r::l,y,j=>match j with
  | 0=>some (.arr false z (y.1.map r.enc))
  | j+1=>p6 l y.2 j
 | .val _ _ _::l,y,j=>p6 l y.2 j
 | .box _ _::l,y,j=>p6 l y.2 j
 | .map _ _ _ _::l,y,j=>p6 l y.2 j
 | .kN _::l,y,j=>p6 l y.2 j
 | .iL _ _::l,y,j=>p6 l y.2 j
 | .fix _::l,y,j=>p6 l y.2 j
 | .arr _ _ _::l,y,j=>p6 l y.2 j
 | .dB _::l,y,j=>p6 l y.2 j
 | .drop _::l,y,j=>p6 l y.2 j
def pF (st:St) (k o:Nat):Option Nat:=match st.σ k with
 | some (.rows false [cells])=>match cells[o]? with
  | some (.own k')=>some k'
  | _=>none
 | _=>none
def j3:List It→Nat→Nat→Bool
 | [],_,_=>false
 | .wS k o _ _::l,k',o'=>(k' == k&&o' == o)||j3 l k' o'
 | _::l,k',o'=>j3 l k' o'
def CP (n:Nat):List It→Nat→Nat→List D→List D
 | [],_,_,row=>row
 | .own _ _ _::l,j,k,row=>CP n l (j+1) k row
 | .wS k' o _ _::l,j,k,row=>match k == k' with
  | true=>(CP n l (j+1) k row).set o (.own (n+j))
  | false=>CP n l (j+1) k row
 | _::l,j,k,row=>CP n l j k row
def fB:List It→St→List (Option Nat)
 | [],_=>[]
 | .own t _ _::l,st=>(match st.s t with
  | .own k=>some k
  | _=>none)::fB l st
 | .val _ _ _::l,st=>fB l st
 | .box _ _::l,st=>fB l st
 | .map _ _ _ _::l,st=>fB l st
 | .kN _::l,st=>fB l st
 | .iL _ _::l,st=>fB l st
 | .fix _::l,st=>fB l st
 | .arr _ _ _::l,st=>fB l st
 | .dB _::l,st=>fB l st
 | .drop _::l,st=>fB l st
 | .wS k o _ _::l,st=>pF st k o::fB l st
def nV:List It→Nat
 | []=>0
 | .own _ _ _::l=>nV l+1
 | .val _ _ _::l=>nV l
 | .box _ _::l=>nV l
 | .map _ _ _ _::l=>nV l
 | .kN _::l=>nV l
 | .iL _ _::l=>nV l
 | .fix _::l=>nV l
 | .arr _ _ _::l=>nV l
 | .dB _::l=>nV l
 | .drop _::l=>nV l
 | .wS _ _ _ _::l=>nV l+1
theorem fC:∀ (its:List It) (st:St),(fB its st).length=nV its
 | [],_=>rfl
 | .own _ _ _::l,st=>by simp only[fB,nV,List.length_cons,fC l st]
 | .val _ _ _::l,st=>fC l st
 | .box _ _::l,st=>fC l st
 | .map _ _ _ _::l,st=>fC l st
 | .kN _::l,st=>fC l st
 | .iL _ _::l,st=>fC l st
 | .fix _::l,st=>fC l st
 | .arr _ _ _::l,st=>fC l st
 | .dB _::l,st=>fC l st
 | .drop _::l,st=>fC l st
 | .wS _ _ _ _::l,st=>by simp only[fB,nV,List.length_cons,fC l st]
def rY:List It→Nat→Bool
 | [],_=>false
 | .box k _::l,i=>i == k||rY l i
 | .map k _ _ _::l,i=>i == k||rY l i
 | .kN k::l,i=>i == k||rY l i
 | .iL k _::l,i=>i == k||rY l i
 | .fix k::l,i=>i == k||rY l i
 | .arr k _ _::l,i=>i == k||rY l i
 | .dB k::l,i=>i == k||rY l i
 | .drop k::l,i=>i == k||rY l i
 | .wS _ _ _ _::l,i=>rY l i
 | .val _ _ _::l,i=>rY l i
 | .own _ _ _::l,i=>rY l i
def yZ (n:Nat):List It→Bool
 | []=>true
 | .iL _ (some m)::l=>decide (m<n)&&yZ n l
 | _::l=>yZ n l
def KM:aK→Bool
 | .kN _ _=>false
 | .iL _ _ _ _=>false
 | .dB _ _ _ _=>false
 | _=>true
def J9:List (Option Nat)→Nat→Bool
 | [],_=>false
 | some k::l,i=>i == k||J9 l i
 | none::l,i=>J9 l i
def kept (its:List It) (st₀:St) (k:Nat):Bool:=decide (k<st₀.n)&&match st₀.σ k with
 | some x=>!dP x||(!rY its k && !J9 (fB its st₀) k&&KM x)
 | none=>false
def apart:List (Option Nat)→Bool
 | []=>true
 | some k::l=>!J9 l k&&apart l
 | none::l=>apart l
def yL (its:List It) (st₀ st:St):Bool:=apart (fB its st)&&(fB its st).all (fun x=>match x with
 | some k=>!kept its st₀ k && !rY its k
 | none=>true)&&yZ st₀.n its
def gB:List It→Nat→Bool
 | [],_=>false
 | .drop k::l,i=>i == k||gB l i
 | .box k _::l,i=>!(i == k)&&gB l i
 | .map k _ _ _::l,i=>!(i == k)&&gB l i
 | .kN k::l,i=>!(i == k)&&gB l i
 | .iL k _::l,i=>!(i == k)&&gB l i
 | .fix k::l,i=>!(i == k)&&gB l i
 | .arr k _ _::l,i=>!(i == k)&&gB l i
 | .dB k::l,i=>!(i == k)&&gB l i
 | .val _ _ _::l,i=>gB l i
 | .own _ _ _::l,i=>gB l i
 | .wS _ _ _ _::l,i=>gB l i
def WL (its:List It) (st₀ st:St) (k:Nat):Bool:=(decide (st₀.n≤k)||(!kept its st₀ k&&gB its k)) && !J9 (fB its st) k
def OS (its:List It) (st₀ st:St):Nat→Option aK:=fun k=>match WL its st₀ st k with
 | true=>st.σ k
 | false=>none
def V4 (C:iB) (st₀ st:St) (its:List It) (K:wP.den its→Prop):Prop:=GW C (OS its st₀ st) (j3 its) st₀ st its K
def r7 (its:List It) (A:Nat→Bool) (st₀:St) (y:wP.den its):St :=
 ⟨fun i=>match A i with
  | true=>p7 st₀.n its y 0 i
  | false=>st₀.s i,
  fun k=>match decide (k<st₀.n) with
  | true=>match kept its st₀ k with
   | true=>(st₀.σ k).map lock
   | false=>gM (CP st₀.n its 0) st₀ its y k
  | false=>p6 its y (k-st₀.n),
  st₀.n+nV its⟩
def DU (its:List It) (st₀:St):St:=⟨st₀.s,fun k=>match kept its st₀ k with
 | true=>(st₀.σ k).map lock
 | false=>st₀.σ k,st₀.n⟩
def ID (its:List It) (st₀ st:St):St:=⟨st.s,fun k=>match kept its st₀ k with
 | true=>st₀.σ k
 | false=>st.σ k,st.n⟩
def Wk (a b:List T):Prop:=a.length=b.length∧∀ (i:Nat) (x y:T),a[i]? = some x→b[i]? = some y→∀ (w:World) (own:Nat→Prop) (v:Value),bK w own x v→bK w own y v
theorem Wk.refl (a:List T):Wk a a:=⟨rfl,fun i x y hx hy=>by rw[hx] at hy;cases hy;exact fun _ _ _ h=>h⟩
theorem Y5 {w:World} {own:Nat→Prop} {f:Bool} {rows:List (List T)} {v:Value} (h:bK w own (.sl f rows) v):bK w own (.sl false (fI rows)) v:=by
 cases h with
 | b6 _ a cap hf hn=>exact .b6 false a cap (by simp) hn
 | sl _ _ sz b o cap g h1 h2 h3 h4 h45 h5 h6 h7 h8 =>
  have hl:(fI rows).length=rows.length:=by simp[fI]
  rw[←hl]
  refine .sl false (fI rows) sz b o cap g (by omega) (by omega) (by simp) h4 h45 (fun r hr=>?_) h6 (fun i j hi hj=>h7 i j (by omega) hj) (fun i j hi hj=>?_)
  ·simp only[fI,List.mem_map] at hr
   obtain ⟨r',hr',rfl⟩:=hr
   simpa using h5 r' hr'
  ·have hi':i<rows.length:=by omega
   have hr:(fI rows)[i]=rows[i].map (T.canon 0):=by simp[fI]
   have hj':j<rows[i].length:=by rw[hr] at hj;simpa using hj
   have:(fI rows)[i][j]=T.canon 0 rows[i][j]:=by simp[fI]
   rw[this]
   exact (h8 i j hi' hj').canon 0
theorem lS:∀ {r:Sy} {row:List T} {K:r.den→Prop},SB b9 r row K→∃ y,K y∧Wk row (r.enc y)
 | .int k,row,K,h=>by
  simp only[SB] at h
  split at h
  ·split at h
   ·rename_i hk
    have hk:=of_decide_eq_true hk
    subst hk
    exact ⟨_,h,Wk.refl _⟩
   ·exact h.elim
  ·exact h.elim
 | .bool,row,K,h=>by
  simp only[SB] at h
  split at h
  ·exact ⟨_,h,Wk.refl _⟩
  ·exact h.elim
 | .str,row,K,h=>by
  simp only[SB] at h
  split at h
  ·exact ⟨_,h,Wk.refl _⟩
  ·exact h.elim
 | .any,row,K,h=>by
  simp only[SB] at h
  split at h
  ·exact ⟨_,h,Wk.refl _⟩
  ·exact h.elim
 | .pr a b,row,K,h=>by
  simp only[SB] at h
  obtain ⟨x,h1,w1⟩:=lS h
  obtain ⟨y,h2,w2⟩:=lS h1
  refine ⟨(x,y),h2,?_,fun i u v hu hv=>?_⟩
  ·have l1:=w1.1
   have l2:=w2.1
   simp only[List.length_take,Sy.cP,List.length_drop] at l1 l2
   simp only[Sy.enc,List.length_append,Sy.cP]
   omega
  ·have l1:=w1.1
   simp only[List.length_take,Sy.cP] at l1
   simp only[Sy.enc] at hv
   by_cases hi:i<a.w
   ·rw[List.getElem?_append_left (by rw[Sy.cP];exact hi)] at hv
    exact w1.2 i u v (by rw[List.getElem?_take];simp[hi,hu]) hv
   ·rw[List.getElem?_append_right (by rw[Sy.cP];omega),Sy.cP] at hv
    exact w2.2 (i-a.w) u v (by rw[List.getElem?_drop];rw[show a.w+(i-a.w)=i by omega];exact hu) hv
 | .li r,row,K,h=>by
  simp only[SB] at h
  have one:∀ (u:T) (l:List r.den),(∀ w own v,bK w own u v→bK w own (.sl false (l.map r.enc)) v)→Wk [u] (Sy.enc (.li r) l):=by
   intro u l hw
   refine ⟨rfl,fun i x y hx hy=>?_⟩
   match i with
   | 0=>simp at hx;simp only[Sy.enc] at hy;simp at hy;subst hx;subst hy;exact hw
   | i+1=>simp at hx
  split at h
  ·rename_i f rows
   obtain ⟨l,h1,h2⟩:=h
   exact ⟨l,h2,one _ _ fun w own v hv=>by rw[←h1];exact Y5 hv⟩
  ·refine ⟨[],h,one _ _ fun w own v hv=>?_⟩
   cases hv;exact .b6 false none 0 (by simp) (by simp)
  ·refine ⟨[],h,one _ _ fun w own v hv=>?_⟩
   cases hv with
   | ne _ a cap hf=>exact .b6 false (some a) cap (by simp) (by simp)
  ·exact h.elim
def DY:Loc:=⟨0,0,0,0,0⟩
structure RM (τ:Nat→Option aK) (st:St) (cx:Cx) (ρ:Nat→Option Loc) (m:Nat) (w:World) (own':Nat→Prop):Prop where
 inv:Inv cx ρ st.σ m w
 sub:∀ b,own' b→Own cx ρ st.σ b
 tau:∀ k x,τ k=some x→st.σ k=some x
 dis:∀ k x l,τ k=some x→ρ k=some l→0<l.L+l.C→¬ own' l.aN
theorem RM.eO {τ:Nat→Option aK} {st:St} {cx:Cx} {ρ:Nat→Option Loc} {m:Nat} {w:World} {own':Nat→Prop} (h:RM τ st cx ρ m w own') {k:Nat} {d:D} {t:T} {v:Value} (hd:Rd w (Own cx ρ st.σ) ρ d v) (hf:Go.Pv.eO τ k d=some t):bK w own' t v :=
 BZ h.inv h.sub h.tau h.dis k hd hf
structure rW (n:Nat) (τ:Nat→Option aK) (sr:List (Option Nat)) (st:St) (x y:aK):Prop where
 ok:∀ (cx:Cx) (m:Nat) (w:World) (own':Nat→Prop) (ρ ρ':Nat→Option Loc) (l:Loc),(∀ k,k<n→ρ' k=ρ k)→(∀ j src,sr[j]? = some src→ρ' (n+j)=match src with
  | some k=>ρ k
  | none=>some DY)→RM τ st cx ρ m w own'→fK w (Own cx ρ st.σ) ρ l x→fK w own' ρ' l y
 wr:dP x=true
def AFX (n:Nat) (τ:Nat→Option aK) (π:Nat→Nat→Bool) (sr:List (Option Nat)) (st₀ st:St):(it:It)→it.den→Prop
 | .val t ag r,y=>∀ cx m ρ w own' v,RM τ st cx ρ m w own'→Rd w (Own cx ρ st.σ) ρ (st.s t) v→bK w own' (aG ag r y) v
 | .own t z r,y=>(∃ k rows,st.s t = .own k∧st.σ k=some (.arr false z rows)∧fI rows=List.map r.enc y)∨(y=([]:List r.den)∧∃ tt,st.s t = .p tt∧dF tt=some (true,[]))
 | .box k r,y=>∃ cells ts,st.σ k=some (.rows false [cells])∧(mK π k 0 cells).mapM (eO τ 4)=some ts∧Wk ts (r.enc y)
 | .map k kr ag r,y=>∃ x,st.σ k=some x∧rW n τ sr st x (.map false (List.map (dE kr ag r) y))
 | .kN k,y=>∃ x,st.σ k=some x∧rW n τ sr st x (.kN y.1 y.2)
 | .iL k m,y=>∃ x,st.σ k=some x∧rW n τ sr st x (.iL m y.1 y.2.1 y.2.2)
 | .fix k,_=>∃ x,st.σ k=some x∧st₀.σ k=some x∧dP x=true
 | .arr k z r,y=>∃ x,st.σ k=some x∧rW n τ sr st x (.arr false z (List.map r.enc y))
 | .dB k,y=>∃ x,st.σ k=some x∧rW n τ sr st x (.dB y.1 y.2.1 y.2.2.1 y.2.2.2)
 | .drop _,_=>True
 | .wS k o z r,y=>∃ cells c,st.σ k=some (.rows false [cells])∧cells[o]? = some c∧((∃ k' rows,c = .own k'∧st.σ k'=some (.arr false z rows)∧fI rows=List.map r.enc y)∨(y=([]:List r.den)∧∃ tt,c = .p tt∧dF tt=some (true,[])))
def nZ (n:Nat) (τ:Nat→Option aK) (π:Nat→Nat→Bool) (sr:List (Option Nat)) (st₀ st:St):(its:List It)→wP.den its→Prop
 | [],_=>True
 | it::l,y=>AFX n τ π sr st₀ st it y.1∧nZ n τ π sr st₀ st l y.2
def O3 (n:Nat) (st₀ st:St) (its:List It) (y:wP.den its):Prop:=nZ n (OS its st₀ st) (j3 its) (fB its st) st₀ st its y
theorem mL {π:Nat→Nat→Bool} {k:Nat}:∀ {cells:List D} {i:Nat},(mK π k i cells).length=cells.length
 | [],_=>rfl
 | c::l,i=>by simp only[mK,List.length_cons,mL (cells:=l)]
theorem A4 {π:Nat→Nat→Bool} {k:Nat}:∀ {cells:List D} {i q:Nat} (h:q<cells.length),π k (i+q)=false→(mK π k i cells)[q]'(by rw[mL];exact h)=cells[q]
 | c::l,i,0,h,hp=>by
  simp only[mK,List.getElem_cons_zero]
  rw[show π k i=false from hp]
 | c::l,i,q+1,h,hp=>by
  simp only[mK,List.getElem_cons_succ]
  exact A4 (by simpa using h) (by rw[←hp];congr 1;omega)
structure VC (π:Nat→Nat→Bool) (n k:Nat) (sr:List (Option Nat)) (cells:List D) (base row:List D):Prop where
 len:row.length=base.length
 at_:∀ i c,row[i]? = some c→(π k i=false∧base[i]? = some c)∨(π k i=true∧∃ j src,c = .own (n+j)∧sr[j]? = some src∧((∃ k',cells[i]? = some (.own k')∧src=some k')∨(src=none∧∃ tt,cells[i]? = some (.p tt)∧dF tt=some (true,[]))))
theorem LD {w:World} {own:Nat→Prop} {tt:T} {v:Value} (h:bK w own tt v) (hr:dF tt=some (true,[])):∃ a,v = .slice a 0 0:=by
 unfold dF at hr
 split at hr
 ·cases hr
  cases h with
  | b6 _ a cap hf hn=>rw[hf rfl];exact ⟨a,rfl⟩
  | sl _ _ sz b o cap g h1 h2 h3 h4 h45 h5 h6 h7 h8=>have:=h3 rfl;simp at this;subst this;exact ⟨_,rfl⟩
 ·cases hr;cases h;exact ⟨none,rfl⟩
 ·cases hr
  cases h with
  | ne _ a cap hf=>exact ⟨some a,by rw[hf rfl]⟩
 ·cases hr
theorem IE {w:World} {own:Nat→Prop} {a b:List T} (h:Wk a b) {v:Value} (hv:bK w own (.agg a) v):bK w own (.agg b) v:=by
 cases hv with
 | agg _ vs h1 h2 =>
  refine .agg b vs (by rw[h1,h.1]) fun i hi=>?_
  have hi':i<a.length:=by rw[h.1];exact hi
  exact h.2 i a[i] b[i] (by simp[hi']) (by simp[hi]) _ _ _ (h2 i hi')
theorem ZR {w:World} {own:Nat→Prop} {x:T} {b:List T} (h:Wk [x] b) {v:Value} (hv:bK w own x v):bK w own (hdT b) v:=by
 have hl:=h.1
 match b,hl with
 | [y],_=>exact h.2 0 x y rfl rfl _ _ _ hv
theorem MS {n k:Nat} {τ:Nat→Option aK} {π:Nat→Nat→Bool} {sr:List (Option Nat)} {st:St} {cells:List D} {ts ts':List T} {row:List D} (hm:(mK π k 0 cells).mapM (eO τ 4)=some ts) (h:Wk ts ts') (hw:VC π n k sr cells (ts'.map .p) row):rW n τ sr st (.rows false [cells]) (.rows false [row]):=by
 refine ⟨fun cx m w own' ρ ρ' l hρ hs hzz hb=>?_,rfl⟩
 obtain ⟨m1,m2⟩:=mapM_some_length hm
 rw[mL] at m1
 refine ⟨fun h0=>?_,fun h0=>by obtain ⟨_,_,e⟩:=hb.2 h0;cases e⟩
 obtain ⟨o,h1,h2⟩:=hb.1 h0
 refine ⟨o,h1,?_⟩
 have hlen:row.length=cells.length:=by rw[hw.len,List.length_map,←h.1,m1]
 cases h2 with
 | rows _ rs c hr hz h2 =>
  cases hr
  refine .rows _ [row] c rfl (fun _ _ _ e=>by cases e) ⟨h2.size,h2.pos,h2.small,h2.len,h2.IG,fun r hr=>?_,fun i j hi hj=>?_,h2.one⟩
  ·have:=h2.width cells (by simp)
   simp only[List.mem_singleton] at hr
   subst hr
   rw[hlen]
   exact this
  ·have hi0:i=0:=by simpa using hi
   subst hi0
   simp only[List.getElem_cons_zero] at hj
   have hj2:j<cells.length:=by omega
   have hj':j<ts.length:=by omega
   obtain ⟨v,e1,e2⟩:=h2.cell 0 j (by simp) (by simpa using hj2)
   refine ⟨v,e1,?_⟩
   simp only[List.getElem_cons_zero] at e2 ⊢
   rcases hw.at_ j row[j] (by simp[hj]) with ⟨p1,p2⟩|⟨p1,q,src,p2,p3,p4⟩
   ·have e3:row[j] = .p (ts'[j]'(by rw[←h.1];exact hj')):=by
     have:=List.getElem?_eq_some_iff.1 p2
     obtain ⟨_,g⟩:=this
     rw[←g,List.getElem_map]
    rw[e3]
    refine .p _ _ (h.2 j ts[j] _ (by simp[hj']) (by simp[h.1 ▸ hj']) _ _ _ (hzz.eO (k:=4) e2 ?_))
    have:=m2 j (by rw[mL];exact hj2) hj'
    rw[A4 hj2 (by rw[Nat.zero_add];exact p1)] at this
    exact this
   ·rw[p2]
    have h3:=hs q src p3
    have hc:cells[j]? = some cells[j]:=by simp[hj2]
    rcases p4 with ⟨k',g1,rfl⟩|⟨rfl,tt,g1,g2⟩
    ·rw[hc] at g1
     rw[Option.some.inj g1] at e2
     simp only at h3
     cases e2 with
     | own _ lo hl hL h4 h5=>exact .own _ lo (h3.trans hl) hL h4 h5
     | cE _ lo a hl hL=>exact .cE _ lo a (h3.trans hl) hL
    ·rw[hc] at g1
     rw[Option.some.inj g1] at e2
     cases e2 with
     | p _ _ e2 =>
      obtain ⟨a,rfl⟩:=LD e2 g2
      exact .cE _ DY a h3 rfl
theorem AAX {w:World} {own:Nat→Prop} {ρ:Nat→Option Loc} {e:Value×D} {v:Value} (h:Rd w own ρ e.2 v):Rd w own ρ (GP e).2 v:=by
 unfold GP
 split
 ·rename_i t ht
  rw[ht] at h
  cases h with
  | p _ _ h=>exact .p _ _ (h.canon 1)
 ·exact h
theorem VQ (e:Value×D):(GP e).1=e.1:=by unfold GP;split<;>rfl
theorem RU {n:Nat} {τ:Nat→Option aK} {sr:List (Option Nat)} {st:St} {es:List (Value×D)} {kr:Sy} {ag:Bool} {r:Sy} {l:List (kr.den×r.den)} (h:es.map GP=l.map (dE kr ag r)):rW n τ sr st (.map false es) (.map false (l.map (dE kr ag r))):=by
 refine ⟨fun cx m w own' ρ ρ' lo hρ _ hz hb=>?_,rfl⟩
 refine ⟨fun h0=>?_,fun h0=>by obtain ⟨_,_,e⟩:=hb.2 h0;cases e⟩
 obtain ⟨o,h1,h2⟩:=hb.1 h0
 refine ⟨o,h1,?_⟩
 cases h2 with
 | rows _ rs c hr hz h2=>simp[cI] at hr
 | map _ _ ents e1 e2 =>
  have hlen:es.length=(l.map (dE kr ag r)).length:=by rw[←h];simp
  rw[hlen]
  refine .map false _ ents (by omega) fun i hi=>?_
  have hi':i<es.length:=by omega
  obtain ⟨e,g1,g2,g3,g4⟩:=e2 i hi'
  have he:(l.map (dE kr ag r))[i]=GP es[i]:=by
   have:(es.map GP)[i]'(by simpa using hi')=(l.map (dE kr ag r))[i]:=by congr 1
   rw[←this];simp
  have hp:∃ t,(l.map (dE kr ag r))[i].2 = .p t:=by simp only[List.getElem_map];exact ⟨_,rfl⟩
  refine ⟨e,g1,?_,g3,?_⟩
  ·rw[he,VQ];exact g2
  ·have g5:=AAX g4
   rw[←he] at g5
   obtain ⟨t,ht⟩:=hp
   rw[ht] at g5 ⊢
   cases g5 with
   | p _ _ g5=>exact .p _ _ (g5.less hz.sub)
theorem A7 {w:World} {own own':Nat→Prop} {ρ ρ':Nat→Option Loc} {l:Loc} {ro:Bool} {z:Nat} {rows:List (List T)} (ho:∀ b,own' b→own b) (h:fK w own ρ l (.arr ro z rows)):fK w own' ρ' l (.arr ro z (fI rows)):=by
 refine ⟨fun h0=>?_,fun h0=>?_⟩
 ·obtain ⟨o,h1,h2⟩:=h.1 h0
  refine ⟨o,h1,?_⟩
  cases h2 with
  | rows _ rs c hr hz h2 =>
   cases hr
   have hl:(aC (fI rows)).length=(aC rows).length:=by simp[aC,fI]
   refine .rows _ (aC (fI rows)) c rfl (fun _ _ _ e=>by cases e;exact hz _ _ _ rfl) ⟨h2.size,h2.pos,by have:=h2.small;omega,by have:=h2.len;omega,by have:=h2.IG;omega,fun r hr=>?_,fun i j hi hj=>?_,h2.one⟩
   ·simp only[aC,fI,List.map_map,List.mem_map,Function.comp] at hr
    obtain ⟨r',hr',rfl⟩:=hr
    have:=h2.width (r'.map .p) (by simp only[aC,List.mem_map];exact ⟨r',hr',rfl⟩)
    simpa using this
   ·have hi':i<rows.length:=by simpa [aC,fI] using hi
    have e1:(aC (fI rows))[i]=(rows[i].map (T.canon 0)).map .p:=by simp[aC,fI]
    have hj':j<rows[i].length:=by rw[e1] at hj;simpa using hj
    have e3:(aC rows)[i]'(by simpa using hi')=rows[i].map .p:=by simp[aC]
    obtain ⟨v,g1,g2⟩:=h2.cell i j (by simpa using hi') (by rw[e3];simpa using hj')
    refine ⟨v,g1,?_⟩
    have e2:(aC (fI rows))[i][j] = .p (T.canon 0 rows[i][j]):=by simp[aC,fI]
    have e4:((aC rows)[i]'(by simpa using hi'))[j]'(by rw[e3];simpa using hj') = .p rows[i][j]:=by simp[aC]
    rw[e4] at g2
    rw[e2]
    cases g2 with
    | p _ _ g2=>exact .p _ _ ((g2.canon 0).less ho)
 ·obtain ⟨_,_,e⟩:=h.2 h0
  cases e
  exact ⟨_,_,rfl⟩
theorem V3 {n:Nat} {τ:Nat→Option aK} {π:Nat→Nat→Bool} {sr:List (Option Nat)} {st₀ st:St} {it:It} {K:it.den→Prop} (hm:yZ n [it]=true) (h:UJ b9 τ π st₀ st it K):∃ y,K y∧AFX n τ π sr st₀ st it y:=by
 cases it with
 | val t ag r =>
  simp only[UJ] at h
  split at h
  ·rename_i cs hs
   obtain ⟨y,h1,h2⟩:=lS h
   exact ⟨y,h1,fun cx m ρ w own' v hz hv=>IE h2 (hz.eO hv hs)⟩
  ·rename_i vs hs
   obtain ⟨y,h1,h2⟩:=lS h
   refine ⟨y,h1,fun cx m ρ w own' v hz hv=>?_⟩
   have hv:=hz.eO hv hs
   cases hv
   exact IE h2 (.agg _ _ (bX.vs (R:=bK w own') (g:=T.v) .v _).1 (bX.vs (R:=bK w own') (g:=T.v) .v _).2)
  ·rename_i x hs
   obtain ⟨y,h1,h2⟩:=lS h
   exact ⟨y,h1,fun cx m ρ w own' v hz hv=>ZR h2 (hz.eO hv hs)⟩
  ·exact h.elim
 | own t z r =>
  simp only[UJ] at h
  split at h
  ·rename_i k hs
   split at h
   ·rename_i ro z' rows hσ
    split at h
    ·rename_i hc
     simp only[Bool.and_eq_true,Bool.not_eq_true',beq_iff_eq] at hc
     obtain ⟨rfl,rfl⟩:=hc
     obtain ⟨l,h1,h2⟩:=h
     exact ⟨l,h2,.inl ⟨k,rows,hs,hσ,h1⟩⟩
    ·exact h.elim
   ·exact h.elim
  ·rename_i tt hs
   split at h
   ·rename_i hr
    exact ⟨[],h,.inr ⟨rfl,tt,hs,hr⟩⟩
   ·exact h.elim
  ·exact h.elim
 | box k r =>
  simp only[UJ] at h
  split at h
  ·rename_i ro cells hσ
   split at h
   ·rename_i ts hts
    obtain ⟨y,h1,h2⟩:=lS h
    exact ⟨y,h1,cells,ts,hσ,hts,h2⟩
   ·exact h.elim
  ·exact h.elim
 | map k kr ag r =>
  simp only[UJ] at h
  split at h
  ·rename_i ro es hσ
   split at h
   ·obtain ⟨l,h1,h2⟩:=h
    exact ⟨l,h2,_,hσ,RU h1⟩
   ·exact h.elim
  ·exact h.elim
 | kN k =>
  simp only[UJ] at h
  split at h
  ·rename_i s pos hσ
   exact ⟨(s,pos),h,_,hσ,fun cx m w own' ρ ρ' l hρ _ hz hb=>hb.cut hρ hz.sub trivial,rfl⟩
  ·exact h.elim
 | iL k m =>
  simp only[UJ] at h
  split at h
  ·rename_i m' since seen last hσ
   split at h
   ·rename_i hm'
    have hm':=of_decide_eq_true hm'
    subst hm'
    refine ⟨(since,seen,last),h,_,hσ,fun cx m w own' ρ ρ' l hρ _ hz hb=>hb.cut hρ hz.sub ?_,rfl⟩
    intro km hkm
    subst hkm
    simpa [yZ] using hm
   ·exact h.elim
  ·exact h.elim
 | fix k =>
  simp only[UJ] at h
  split at h
  ·rename_i x y hx hy
   split at h
   ·rename_i hw
    obtain ⟨rfl,h⟩:=h
    exact ⟨(),h,_,hx,hy,hw⟩
   ·exact h.elim
  ·exact h.elim
 | arr k z r =>
  simp only[UJ] at h
  split at h
  ·rename_i ro z' rows hσ
   split at h
   ·rename_i hc
    simp only[Bool.and_eq_true,Bool.not_eq_true',beq_iff_eq] at hc
    obtain ⟨rfl,rfl⟩:=hc
    obtain ⟨l,h1,h2⟩:=h
    refine ⟨l,h2,_,hσ,fun cx m w own' ρ ρ' lo hρ _ hz hb=>?_,rfl⟩
    rw[←h1]
    exact A7 hz.sub hb
   ·exact h.elim
  ·exact h.elim
 | dB k =>
  simp only[UJ] at h
  split at h
  ·rename_i es since seen last hσ
   exact ⟨(es,since,seen,last),h,_,hσ,fun cx m w own' ρ ρ' l hρ _ hz hb=>hb.cut hρ hz.sub trivial,rfl⟩
  ·exact h.elim
 | drop k=>exact ⟨(),h,trivial⟩
 | wS k o z r =>
  simp only[UJ] at h
  split at h
  ·rename_i cells hσ
   split at h
   ·rename_i k' hc
    split at h
    ·rename_i ro z' rows hσ'
     split at h
     ·rename_i hw
      simp only[Bool.and_eq_true,Bool.not_eq_true',beq_iff_eq] at hw
      obtain ⟨rfl,rfl⟩:=hw
      obtain ⟨l,h1,h2⟩:=h
      exact ⟨l,h2,cells,_,hσ,hc,.inl ⟨k',rows,rfl,hσ',h1⟩⟩
     ·exact h.elim
    ·exact h.elim
   ·rename_i tt hc
    split at h
    ·rename_i hr
     exact ⟨[],h,cells,_,hσ,hc,.inr ⟨rfl,tt,rfl,hr⟩⟩
    ·exact h.elim
   ·exact h.elim
  ·exact h.elim
theorem S9 {n:Nat} {it:It} {l:List It} (h:yZ n (it::l)=true):yZ n [it]=true∧yZ n l=true:=by
 cases it with
 | iL k m=>cases m<;>simp[yZ] at h ⊢ <;> exact h
 | _=>exact ⟨rfl,h⟩
theorem x9 {n:Nat} {τ:Nat→Option aK} {π:Nat→Nat→Bool} {sr:List (Option Nat)} {st₀ st:St}:∀ {its:List It} {K:wP.den its→Prop},yZ n its=true→GW b9 τ π st₀ st its K→∃ y,K y∧nZ n τ π sr st₀ st its y
 | [],K,_,h=>⟨(),h,trivial⟩
 | it::l,K,hm,h=>by
  obtain ⟨m1,m2⟩:=S9 hm
  simp only[GW] at h
  obtain ⟨x,h1,h2⟩:=V3 (sr:=sr) m1 h
  obtain ⟨y,h3,h4⟩:=x9 (sr:=sr) m2 h1
  exact ⟨(x,y),h3,h2,h4⟩
theorem BJ {n:Nat} {st₀ st:St} {its:List It} {K:wP.den its→Prop} (hm:yZ n its=true) (h:V4 b9 st₀ st its K):∃ y,K y∧O3 n st₀ st its y:=x9 hm h
end Go.Pv
