/-
  The symbolic executor, part d: where ways come together: a state of which only typed data are known.
-/
import Derived.Test.YtlongjgklndggaaGreatDoorVbkc
set_option linter.defProp false
set_option linter.unusedSimpArgs false
namespace Go.Pv
open Go Go.RowKit
inductive u9 (n:Nat):D→Prop
 | p (t:T):u9 n (.p t)
 | agg (cs:List D):(∀ i (h:i<cs.length),u9 n cs[i])→u9 n (.agg cs)
 | aR (cs:List D):(∀ i (h:i<cs.length),u9 n cs[i])→u9 n (.aR cs)
 | ptr (k i j:Nat):k<n→u9 n (.ptr k i j)
 | own (k:Nat):k<n→u9 n (.own k)
 | bs (k o l:Nat):k<n→u9 n (.bs k o l)
 | map (k:Nat):k<n→u9 n (.map k)
 | it (k:Nat):k<n→u9 n (.it k)
 | fn (f:FuncId) (a b:List D):(∀ i (h:i<a.length),u9 n a[i])→(∀ i (h:i<b.length),u9 n b[i])→u9 n (.fn f a b)
 | hO (g:Bool) (d:D):u9 n d→u9 n (.cond g d)
 | mC (d:D):u9 n (.cond false d)
 | any:u9 n .any
section
variable {w : World} {own own' : Nat → Prop} {ρ ρ' : Nat → Option Loc} {n : Nat}
theorem Rd.SW (hρ:∀ k l,ρ k=some l→k<n) {d:D} {v:Value} (h:Rd w own ρ d v):u9 n d:=by
 induction h with
 | p t x h=>exact .p t
 | agg cs vs hs _ ih=>exact .agg cs ih
 | aR cs vs hs _ ih=>exact .aR cs ih
 | ptr k i j l h=>exact .ptr k i j (hρ _ _ h)
 | own k l h h0 h2 h3=>exact .own k (hρ _ _ h)
 | bG k l a h h0=>exact .own k (hρ _ _ h)
 | bs k off len l h h2 h3=>exact .bs k off len (hρ _ _ h)
 | map k l h=>exact .map k (hρ _ _ h)
 | it k l h=>exact .it k (hρ _ _ h)
 | fn f fs cs va vb h1 h2 _ _ ih1 ih2=>exact .fn f fs cs ih1 ih2
 | hO d v _ ih=>exact .hO _ d ih
 | mC d=>exact .mC d
 | any v=>exact .any
theorem Rd.cut (hρ:∀ k,k<n→ρ' k=ρ k) (ho:∀ b,own' b→own b) {d:D} {v:Value} (h:Rd w own ρ d v) (hb:u9 n d):Rd w own' ρ' d v:=by
 induction h with
 | p t x h=>exact .p t x (h.less ho)
 | agg cs vs hs _ ih=>cases hb with|agg _ hb=>exact .agg cs vs hs fun i hi=>ih i hi (hb i hi)
 | aR cs vs hs _ ih=>cases hb with|aR _ hb=>exact .aR cs vs hs fun i hi=>ih i hi (hb i hi)
 | ptr k i j l h=>cases hb with|ptr _ _ _ hk=>exact .ptr k i j l ((hρ k hk).trans h)
 | own k l h h0 h2 h3=>cases hb with|own _ hk=>exact .own k l ((hρ k hk).trans h) h0 h2 h3
 | bG k l a h h0=>cases hb with|own _ hk=>exact .bG k l a ((hρ k hk).trans h) h0
 | bs k off len l h h2 h3=>cases hb with|bs _ _ _ hk=>exact .bs k off len l ((hρ k hk).trans h) h2 h3
 | map k l h=>cases hb with|map _ hk=>exact .map k l ((hρ k hk).trans h)
 | it k l h=>cases hb with|it _ hk=>exact .it k l ((hρ k hk).trans h)
 | fn f fs cs va vb h1 h2 _ _ ih1 ih2=>cases hb with|fn _ _ _ hb1 hb2=>exact .fn f fs cs va vb h1 h2 (fun i hi=>ih1 i hi (hb1 i hi)) (fun i hi=>ih2 i hi (hb2 i hi))
 | hO d v _ ih=>cases hb with|hO _ _ hb=>exact .hO d v (ih hb)
 | mC d=>exact .mC d
 | any v=>exact .any v
end
def xH (n:Nat):aB→Prop
 | .rows _ rs=>∀ i (hi:i<rs.length) j (hj:j<rs[i].length),u9 n rs[i][j]
 | .arr _ _ _=>True
 | .map _ es=>∀ i (h:i<es.length),u9 n es[i].2
 | .gU _ _=>True
 | .fA m _ _ _=>∀ k,m=some k→k<n
 | .bP _ _ _ _=>True
 | .held=>True
def lock:aB→aB
 | .rows _ rs=>.rows true rs
 | .arr _ z rows=>.arr true z rows
 | .map _ es=>.map true es
 | x=>x
section
variable {w : World} {own own' : Nat → Prop} {ρ ρ' : Nat → Option Loc} {n : Nat} {l : Loc} {x y : aB}
theorem dL.SW (hρ:∀ k l,ρ k=some l→k<n) (h:dL w own ρ l x):xH n x:=by
 rcases Nat.eq_zero_or_pos (l.L+l.C) with h0|h0
 ·obtain ⟨ro,z,rfl⟩:=h.2 h0;trivial
 ·obtain ⟨o,_,hb⟩:=h.1 h0
  cases hb with
  | rows _ rs c hr hz h' =>
   cases x with
   | rows ro rs'=>cases hr;exact fun i hi j hj=>let ⟨v,_,hv⟩:=h'.cell i j hi hj;hv.SW hρ
   | arr ro z rows=>trivial
   | _=>simp[bF] at hr
  | map ro es ents h1 h2=>exact fun i hi=>let ⟨e,_,_,_,hv⟩:=h2 i hi;hv.SW hρ
  | gU s pos=>trivial
  | fA m l' since seen last h'=>exact fun k hk=>by cases hk;exact hρ _ _ h'
  | iL=>exact fun k hk=>by cases hk
  | bP=>trivial
  | held o=>trivial
theorem OV {rows:List (List T)} {i j:Nat} (hi:i<(aA rows).length) (hj:j<(aA rows)[i].length):∃ t,(aA rows)[i][j] = .p t:=by
 simp only[aA,List.getElem_map];exact ⟨_,rfl⟩
theorem dL.cut (hρ:∀ k,k<n→ρ' k=ρ k) (ho:∀ b,own' b→own b) (h:dL w own ρ l x) (hb:xH n x):dL w own' ρ' l x:=by
 refine ⟨fun h0=>?_,h.2⟩
 obtain ⟨o,ho',hx⟩:=h.1 h0
 refine ⟨o,ho',?_⟩
 cases hx with
 | rows _ rs c hr hz h' =>
  refine .rows x rs c hr hz ⟨h'.size,h'.pos,h'.small,h'.len,h'.AE,h'.width,fun i j hi hj=>?_,h'.one⟩
  obtain ⟨v,h1,h2⟩:=h'.cell i j hi hj
  refine ⟨v,h1,h2.cut hρ ho ?_⟩
  cases x with
  | rows ro rs'=>cases hr;exact hb i hi j hj
  | arr ro z rows=>cases hr;obtain ⟨t,ht⟩:=OV hi hj;rw[ht];exact .p t
  | _=>simp[bF] at hr
 | map ro es ents h1 h2=>exact .map ro es ents h1 fun i hi=>let ⟨e,a,b,c,hv⟩:=h2 i hi;⟨e,a,b,c,hv.cut hρ ho (hb i hi)⟩
 | gU s pos=>exact .gU s pos
 | fA m l' since seen last h'=>exact .fA m l' since seen last ((hρ m (hb m rfl)).trans h')
 | iL=>exact .iL
 | bP es b since seen last h'=>exact .bP es b since seen last (h'.less ho)
 | held o=>exact .held o
theorem dL.yT (hxy:lock x=lock y) (h:dL w own ρ l x):dL w own ρ l y:=by
 refine ⟨fun h0=>?_,fun h0=>?_⟩
 ·obtain ⟨o,ho',hx⟩:=h.1 h0
  refine ⟨o,ho',?_⟩
  cases hx with
  | rows _ rs c hr hz h' =>
   cases x with
   | rows ro rs' =>
    cases y<;>simp only[lock,aB.rows.injEq,reduceCtorEq] at hxy
    obtain ⟨_,rfl⟩:=hxy
    exact .rows _ rs c hr (fun _ _ _ e=>by cases e) h'
   | arr ro z rows =>
    cases y<;>simp only[lock,aB.arr.injEq,reduceCtorEq] at hxy
    obtain ⟨_,rfl,rfl⟩:=hxy
    exact .rows _ rs c hr (fun _ _ _ e=>by cases e;exact hz _ _ _ rfl) h'
   | _=>simp[bF] at hr
  | map ro es ents h1 h2 =>
   cases y<;>simp only[lock,aB.map.injEq,reduceCtorEq] at hxy
   obtain ⟨_,rfl⟩:=hxy
   exact .map _ es ents h1 h2
  | gU s pos=>cases y<;>simp only[lock,reduceCtorEq] at hxy;cases hxy;exact .gU s pos
  | fA m l' since seen last h'=>cases y<;>simp only[lock,reduceCtorEq] at hxy;cases hxy;exact .fA m l' since seen last h'
  | iL=>cases y<;>simp only[lock,reduceCtorEq] at hxy;cases hxy;exact .iL
  | bP es b since seen last h'=>cases y<;>simp only[lock,reduceCtorEq] at hxy;cases hxy;exact .bP es b since seen last h'
  | held o=>cases y<;>simp only[lock,reduceCtorEq] at hxy;exact .held o
 ·obtain ⟨ro,z,rfl⟩:=h.2 h0
  cases y<;>simp only[lock,aB.arr.injEq,reduceCtorEq] at hxy
  obtain ⟨_,rfl,rfl⟩:=hxy
  exact ⟨_,_,rfl⟩
theorem lS (x:aB):lock (lock x)=lock x:=by cases x<;>rfl
theorem N7 (h:bS x=false):bS (lock x)=false:=by cases x<;>first|rfl|exact h
end
inductive It where
 | val (t:Tmp) (ag:Bool) (r:Sy)
 | own (t:Tmp) (z:Nat) (r:Sy)
 | box (k:Nat) (r:Sy)
 | map (k:Nat) (kr:Sy) (ag:Bool) (r:Sy)
 | gU (k:Nat)
 | fA (k:Nat) (m:Option Nat)
 | fix (k:Nat)
 | arr (k:Nat) (z:Nat) (r:Sy)
 | bP (k:Nat)
 | drop (k:Nat)
 | qG (k o z:Nat) (r:Sy)
abbrev It.den:It→Type
 | .val _ _ r=>r.den
 | .own _ _ r=>List r.den
 | .box _ r=>r.den
 | .map _ kr _ r=>List (kr.den×r.den)
 | .gU _=>ByteArray×Nat
 | .fA _ _=>Nat×List Nat×Nat
 | .fix _=>Unit
 | .arr _ _ r=>List r.den
 | .bP _=>List (Value×T)×Nat×List Nat×Nat
 | .drop _=>Unit
 | .qG _ _ _ r=>List r.den
abbrev oO.den:List It→Type
 | []=>Unit
 | a::l=>a.den×oO.den l
def HT (kr:Sy) (x:kr.den):Value:=match R9 (kr.enc x) with
 | .v x=>x
 | _=>undef
def qH (kr:Sy) (ag:Bool) (r:Sy) (e:kr.den×r.den):Value×D:=(HT kr e.1,.p (bI ag r e.2))
def z8 (e:Value×D):Value×D:=match e.2 with
 | .p t=>(e.1,.p (t.canon 1))
 | _=>e
def S4 (kr:Sy) (ag:Bool) (r:Sy) (es:List (Value×D)) (K:List (kr.den×r.den)→Prop):Prop:=∃ l,es.map z8=l.map (qH kr ag r)∧K l
def S6 (n:Nat) (seen:List Nat) (A:Prop) (B:Nat→Prop):Prop:=(cI n seen=[]→A)∧∀ i,i∈cI n seen→B i
def UE (kr:Sy) (ag:Bool) (r:Sy) (es:List (Value×D)) (seen:List Nat) (K:kr.den→r.den→Prop):Prop:=∃ i x y,seen.getLast? = some i∧es[i]? = some (qH kr ag r (x,y))∧K x y
def TT (x y:aB) (K:Prop):Prop:=x=y∧K
def JP (A B:Prop):Prop:=A∧B
structure dH extends Combs where
 S3:(kr:Sy)→(ag:Bool)→(r:Sy)→List (Value×D)→(List (kr.den×r.den)→Prop)→Prop
 each:Nat→List Nat→Prop→(Nat→Prop)→Prop
 S7:(kr:Sy)→(ag:Bool)→(r:Sy)→List (Value×D)→List Nat→(kr.den→r.den→Prop)→Prop
 same:aB→aB→Prop→Prop
 both:Prop→Prop→Prop
def bC:dH:={ fB with S3:=S4,each:=S6,S7:=UE,same:=TT,both:=JP }
section
variable (C : dH)
def G8:(r:Sy)→List T→(r.den→Prop)→Prop
 | .int k,row,K=>match row with
  | [.v (.int k' n)]=>match decide (k'=k) with
   | true=>K n
   | false=>C.bad 301
  | _=>C.bad 302
 | .bool,row,K=>match row with
  | [.v (.bool b)]=>K b
  | _=>C.bad 303
 | .str,row,K=>match row with
  | [.v (.string s)]=>K s
  | _=>C.bad 304
 | .any,row,K=>match row with
  | [x]=>K x
  | _=>C.bad 305
 | .pr a b,row,K=>G8 a (row.take a.w) fun x=>G8 b (row.drop a.w) fun y=>K (x,y)
 | .li r,row,K=>match row with
  | [.sl _ rows]=>C.dec r rows K
  | [.v (.slice none 0 0)]=>K []
  | [.ne _]=>K []
  | _=>C.bad 306
def jG (π:Nat→Nat→Bool) (k:Nat):Nat→List D→List D
 | _,[]=>[]
 | i,c::l=>(match π k i with
  | true=>.p (.sl false [])
  | false=>c)::jG π k (i+1) l
def TX (τ:Nat→Option aB):Nat→List D→Nat
 | i,[]=>31600+i
 | i,c::l=>match c0 τ 4 c with
  | some _=>TX τ (i+1) l
  | none=>3160000+i*100+(match c with
   | .ptr _ _ _=>10
   | .own k=>match τ k with
    | some (.arr _ _ _)=>21
    | some _=>22
    | none=>20
   | .bs _ _ _=>30
   | .map _=>40
   | .it _=>50
   | .fn _ _ _=>60
   | .cond _ _=>70
   | .any=>80
   | _=>90)
def IQ (τ:Nat→Option aB) (π:Nat→Nat→Bool) (st₀ st:St):(it:It)→(it.den→Prop)→Prop
 | .val t ag r,K=>match c0 τ 4 (st.s t),ag with
  | some (.agg cs),true=>G8 C r cs K
  | some (.v (.agg vs)),true=>G8 C r (vs.toList.map .v) K
  | some x,false=>G8 C r [x] K
  | _,_=>C.bad 311
 | .own t z r,K=>match st.s t with
  | .own k=>match st.σ k with
   | some (.arr ro z' rows)=>match !ro&&z' == z with
    | true=>C.dec r rows K
    | false=>C.bad 312
   | _=>C.bad 313
  | .p tt=>match bT tt with
   | some (true,[])=>K []
   | _=>C.bad 314
  | _=>C.bad 315
 | .box k r,K=>match st.σ k with
  | some (.rows ro [cells])=>match ro,(jG π k 0 cells).mapM (c0 τ 4) with
   | false,some ts=>G8 C r ts K
   | _,_=>C.bad (TX τ 0 cells)
  | _=>C.bad 317
 | .map k kr ag r,K=>match st.σ k with
  | some (.map ro es)=>match ro with
   | false=>C.S3 kr ag r es K
   | true=>C.bad 318
  | _=>C.bad 319
 | .gU k,K=>match st.σ k with
  | some (.gU s pos)=>K (s,pos)
  | _=>C.bad 320
 | .fA k m,K=>match st.σ k with
  | some (.fA m' since seen last)=>match decide (m'=m) with
   | true=>K (since,seen,last)
   | false=>C.bad 321
  | _=>C.bad 322
 | .fix k,K=>match st.σ k,st₀.σ k with
  | some x,some y=>match bS x with
   | true=>C.same x y (K ())
   | false=>C.bad 324
  | _,_=>C.bad 325
 | .arr k z r,K=>match st.σ k with
  | some (.arr ro z' rows)=>match !ro&&z' == z with
   | true=>C.dec r rows K
   | false=>C.bad 326
  | _=>C.bad 327
 | .bP k,K=>match st.σ k with
  | some (.bP es since seen last)=>K (es,since,seen,last)
  | _=>C.bad 323
 | .drop _,K=>K ()
 | .qG k o z r,K=>match st.σ k with
  | some (.rows false [cells])=>match cells[o]? with
   | some (.own k')=>match st.σ k' with
    | some (.arr ro z' rows)=>match !ro&&z' == z with
     | true=>C.dec r rows K
     | false=>C.bad 332
    | _=>C.bad 333
   | some (.p tt)=>match bT tt with
    | some (true,[])=>K []
    | _=>C.bad 334
   | _=>C.bad 335
  | _=>C.bad 336
def x5 (τ:Nat→Option aB) (π:Nat→Nat→Bool) (st₀ st:St):(its:List It)→(oO.den its→Prop)→Prop
 | [],K=>K ()
 | it::l,K=>IQ C τ π st₀ st it fun x=>x5 τ π st₀ st l fun y=>K (x,y)
end
def l6 (n:Nat):(its:List It)→oO.den its→Nat→Nat→D
 | [],_,_,_=>.any
 | .val t ag r::l,y,j,i=>match i == t with
  | true=>.p (bI ag r y.1)
  | false=>l6 n l y.2 j i
 | .own t _ _::l,y,j,i=>match i == t with
  | true=>.own (n+j)
  | false=>l6 n l y.2 (j+1) i
 | .box _ _::l,y,j,i=>l6 n l y.2 j i
 | .map _ _ _ _::l,y,j,i=>l6 n l y.2 j i
 | .gU _::l,y,j,i=>l6 n l y.2 j i
 | .fA _ _::l,y,j,i=>l6 n l y.2 j i
 | .fix _::l,y,j,i=>l6 n l y.2 j i
 | .arr _ _ _::l,y,j,i=>l6 n l y.2 j i
 | .bP _::l,y,j,i=>l6 n l y.2 j i
 | .drop _::l,y,j,i=>l6 n l y.2 j i
 | .qG _ _ _ _::l,y,j,i=>l6 n l y.2 (j+1) i
def eI (f:Nat→List D→List D) (st₀:St):(its:List It)→oO.den its→Nat→Option aB
 | [],_,_=>none
 | .val _ _ _::l,y,i=>eI f st₀ l y.2 i
 | .own _ _ _::l,y,i=>eI f st₀ l y.2 i
 | .box k r::l,y,i=>match i == k with
  | true=>some (.rows false [f k ((r.enc y.1).map .p)])
  | false=>eI f st₀ l y.2 i
 | .map k kr ag r::l,y,i=>match i == k with
  | true=>some (.map false (y.1.map (qH kr ag r)))
  | false=>eI f st₀ l y.2 i
 | .gU k::l,y,i=>match i == k with
  | true=>some (.gU y.1.1 y.1.2)
  | false=>eI f st₀ l y.2 i
 | .fA k m::l,y,i=>match i == k with
  | true=>some (.fA m y.1.1 y.1.2.1 y.1.2.2)
  | false=>eI f st₀ l y.2 i
 | .fix k::l,y,i=>match i == k with
  | true=>st₀.σ k
  | false=>eI f st₀ l y.2 i
 | .arr k z r::l,y,i=>match i == k with
  | true=>some (.arr false z (y.1.map r.enc))
  | false=>eI f st₀ l y.2 i
 | .bP k::l,y,i=>match i == k with
  | true=>some (.bP y.1.1 y.1.2.1 y.1.2.2.1 y.1.2.2.2)
  | false=>eI f st₀ l y.2 i
 | .drop k::l,y,i=>match i == k with
  | true=>none
  | false=>eI f st₀ l y.2 i
 | .qG _ _ _ _::l,y,i=>eI f st₀ l y.2 i
def l5:(its:List It)→oO.den its→Nat→Option aB
 | [],_,_=>none
 | .own _ z r::l,y,j=>match j with
  | 0=>some (.arr false z (y.1.map r.enc))
  | j+1=>l5 l y.2 j
 | .qG _ _ z r::l,y,j=>match j with
  | 0=>some (.arr false z (y.1.map r.enc))
  | j+1=>l5 l y.2 j
 | .val _ _ _::l,y,j=>l5 l y.2 j
 | .box _ _::l,y,j=>l5 l y.2 j
 | .map _ _ _ _::l,y,j=>l5 l y.2 j
 | .gU _::l,y,j=>l5 l y.2 j
 | .fA _ _::l,y,j=>l5 l y.2 j
 | .fix _::l,y,j=>l5 l y.2 j
 | .arr _ _ _::l,y,j=>l5 l y.2 j
 | .bP _::l,y,j=>l5 l y.2 j
 | .drop _::l,y,j=>l5 l y.2 j
def lO (st:St) (k o:Nat):Option Nat:=match st.σ k with
 | some (.rows false [cells])=>match cells[o]? with
  | some (.own k')=>some k'
  | _=>none
 | _=>none
def gJ:List It→Nat→Nat→Bool
 | [],_,_=>false
 | .qG k o _ _::l,k',o'=>(k' == k&&o' == o)||gJ l k' o'
 | _::l,k',o'=>gJ l k' o'
def uG (n:Nat):List It→Nat→Nat→List D→List D
 | [],_,_,row=>row
 | .own _ _ _::l,j,k,row=>uG n l (j+1) k row
 | .qG k' o _ _::l,j,k,row=>match k == k' with
  | true=>(uG n l (j+1) k row).set o (.own (n+j))
  | false=>uG n l (j+1) k row
 | _::l,j,k,row=>uG n l j k row
def dE:List It→St→List (Option Nat)
 | [],_=>[]
 | .own t _ _::l,st=>(match st.s t with
  | .own k=>some k
  | _=>none)::dE l st
 | .val _ _ _::l,st=>dE l st
 | .box _ _::l,st=>dE l st
 | .map _ _ _ _::l,st=>dE l st
 | .gU _::l,st=>dE l st
 | .fA _ _::l,st=>dE l st
 | .fix _::l,st=>dE l st
 | .arr _ _ _::l,st=>dE l st
 | .bP _::l,st=>dE l st
 | .drop _::l,st=>dE l st
 | .qG k o _ _::l,st=>lO st k o::dE l st
def kC:List It→Nat
 | []=>0
 | .own _ _ _::l=>kC l+1
 | .val _ _ _::l=>kC l
 | .box _ _::l=>kC l
 | .map _ _ _ _::l=>kC l
 | .gU _::l=>kC l
 | .fA _ _::l=>kC l
 | .fix _::l=>kC l
 | .arr _ _ _::l=>kC l
 | .bP _::l=>kC l
 | .drop _::l=>kC l
 | .qG _ _ _ _::l=>kC l+1
theorem dF:∀ (its:List It) (st:St),(dE its st).length=kC its
 | [],_=>rfl
 | .own _ _ _::l,st=>by simp only[dE,kC,List.length_cons,dF l st]
 | .val _ _ _::l,st=>dF l st
 | .box _ _::l,st=>dF l st
 | .map _ _ _ _::l,st=>dF l st
 | .gU _::l,st=>dF l st
 | .fA _ _::l,st=>dF l st
 | .fix _::l,st=>dF l st
 | .arr _ _ _::l,st=>dF l st
 | .bP _::l,st=>dF l st
 | .drop _::l,st=>dF l st
 | .qG _ _ _ _::l,st=>by simp only[dE,kC,List.length_cons,dF l st]
def mB:List It→Nat→Bool
 | [],_=>false
 | .box k _::l,i=>i == k||mB l i
 | .map k _ _ _::l,i=>i == k||mB l i
 | .gU k::l,i=>i == k||mB l i
 | .fA k _::l,i=>i == k||mB l i
 | .fix k::l,i=>i == k||mB l i
 | .arr k _ _::l,i=>i == k||mB l i
 | .bP k::l,i=>i == k||mB l i
 | .drop k::l,i=>i == k||mB l i
 | .qG _ _ _ _::l,i=>mB l i
 | .val _ _ _::l,i=>mB l i
 | .own _ _ _::l,i=>mB l i
def rE (n:Nat):List It→Bool
 | []=>true
 | .fA _ (some m)::l=>decide (m<n)&&rE n l
 | _::l=>rE n l
def BB:aB→Bool
 | .gU _ _=>false
 | .fA _ _ _ _=>false
 | .bP _ _ _ _=>false
 | _=>true
def A0:List (Option Nat)→Nat→Bool
 | [],_=>false
 | some k::l,i=>i == k||A0 l i
 | none::l,i=>A0 l i
def kept (its:List It) (st₀:St) (k:Nat):Bool:=decide (k<st₀.n)&&match st₀.σ k with
 | some x=>!bS x||(!mB its k && !A0 (dE its st₀) k&&BB x)
 | none=>false
def apart:List (Option Nat)→Bool
 | []=>true
 | some k::l=>!A0 l k&&apart l
 | none::l=>apart l
def p0 (its:List It) (st₀ st:St):Bool:=apart (dE its st)&&(dE its st).all (fun x=>match x with
 | some k=>!kept its st₀ k && !mB its k
 | none=>true)&&rE st₀.n its
def eA:List It→Nat→Bool
 | [],_=>false
 | .drop k::l,i=>i == k||eA l i
 | .box k _::l,i=>!(i == k)&&eA l i
 | .map k _ _ _::l,i=>!(i == k)&&eA l i
 | .gU k::l,i=>!(i == k)&&eA l i
 | .fA k _::l,i=>!(i == k)&&eA l i
 | .fix k::l,i=>!(i == k)&&eA l i
 | .arr k _ _::l,i=>!(i == k)&&eA l i
 | .bP k::l,i=>!(i == k)&&eA l i
 | .val _ _ _::l,i=>eA l i
 | .own _ _ _::l,i=>eA l i
 | .qG _ _ _ _::l,i=>eA l i
def KF (its:List It) (st₀ st:St) (k:Nat):Bool:=(decide (st₀.n≤k)||(!kept its st₀ k&&eA its k)) && !A0 (dE its st) k
def EN (its:List It) (st₀ st:St):Nat→Option aB:=fun k=>match KF its st₀ st k with
 | true=>st.σ k
 | false=>none
def J5 (C:dH) (st₀ st:St) (its:List It) (K:oO.den its→Prop):Prop:=x5 C (EN its st₀ st) (gJ its) st₀ st its K
def mF (its:List It) (A:Nat→Bool) (st₀:St) (y:oO.den its):St :=
 ⟨fun i=>match A i with
  | true=>l6 st₀.n its y 0 i
  | false=>st₀.s i,
  fun k=>match decide (k<st₀.n) with
  | true=>match kept its st₀ k with
   | true=>(st₀.σ k).map lock
   | false=>eI (uG st₀.n its 0) st₀ its y k
  | false=>l5 its y (k-st₀.n),
  st₀.n+kC its⟩
def vK (its:List It) (st₀:St):St:=⟨st₀.s,fun k=>match kept its st₀ k with
 | true=>(st₀.σ k).map lock
 | false=>st₀.σ k,st₀.n⟩
def zH (its:List It) (st₀ st:St):St:=⟨st.s,fun k=>match kept its st₀ k with
 | true=>st₀.σ k
 | false=>st.σ k,st.n⟩
def Wk (a b:List T):Prop:=a.length=b.length∧∀ (i:Nat) (x y:T),a[i]? = some x→b[i]? = some y→∀ (w:World) (own:Nat→Prop) (v:Value),aU w own x v→aU w own y v
theorem Wk.refl (a:List T):Wk a a:=⟨rfl,fun i x y hx hy=>by rw[hx] at hy;cases hy;exact fun _ _ _ h=>h⟩
theorem LU {w:World} {own:Nat→Prop} {f:Bool} {rows:List (List T)} {v:Value} (h:aU w own (.sl f rows) v):aU w own (.sl false (dU rows)) v:=by
 cases h with
 | aV _ a cap hf hn=>exact .aV false a cap (by simp) hn
 | sl _ _ sz b o cap g h1 h2 h3 h4 h45 h5 h6 h7 h8 =>
  have hl:(dU rows).length=rows.length:=by simp[dU]
  rw[←hl]
  refine .sl false (dU rows) sz b o cap g (by omega) (by omega) (by simp) h4 h45 (fun r hr=>?_) h6 (fun i j hi hj=>h7 i j (by omega) hj) (fun i j hi hj=>?_)
  ·simp only[dU,List.mem_map] at hr
   obtain ⟨r',hr',rfl⟩:=hr
   simpa using h5 r' hr'
  ·have hi':i<rows.length:=by omega
   have hr:(dU rows)[i]=rows[i].map (T.canon 0):=by simp[dU]
   have hj':j<rows[i].length:=by rw[hr] at hj;simpa using hj
   have:(dU rows)[i][j]=T.canon 0 rows[i][j]:=by simp[dU]
   rw[this]
   exact (h8 i j hi' hj').canon 0
theorem iR:∀ {r:Sy} {row:List T} {K:r.den→Prop},G8 bC r row K→∃ y,K y∧Wk row (r.enc y)
 | .int k,row,K,h=>by
  simp only[G8] at h
  split at h
  ·split at h
   ·rename_i hk
    have hk:=of_decide_eq_true hk
    subst hk
    exact ⟨_,h,Wk.refl _⟩
   ·exact h.elim
  ·exact h.elim
 | .bool,row,K,h=>by
  simp only[G8] at h
  split at h
  ·exact ⟨_,h,Wk.refl _⟩
  ·exact h.elim
 | .str,row,K,h=>by
  simp only[G8] at h
  split at h
  ·exact ⟨_,h,Wk.refl _⟩
  ·exact h.elim
 | .any,row,K,h=>by
  simp only[G8] at h
  split at h
  ·exact ⟨_,h,Wk.refl _⟩
  ·exact h.elim
 | .pr a b,row,K,h=>by
  simp only[G8] at h
  obtain ⟨x,h1,w1⟩:=iR h
  obtain ⟨y,h2,w2⟩:=iR h1
  refine ⟨(x,y),h2,?_,fun i u v hu hv=>?_⟩
  ·have l1:=w1.1
   have l2:=w2.1
   simp only[List.length_take,Sy.bD,List.length_drop] at l1 l2
   simp only[Sy.enc,List.length_append,Sy.bD]
   omega
  ·have l1:=w1.1
   simp only[List.length_take,Sy.bD] at l1
   simp only[Sy.enc] at hv
   by_cases hi:i<a.w
   ·rw[List.getElem?_append_left (by rw[Sy.bD];exact hi)] at hv
    exact w1.2 i u v (by rw[List.getElem?_take];simp[hi,hu]) hv
   ·rw[List.getElem?_append_right (by rw[Sy.bD];omega),Sy.bD] at hv
    exact w2.2 (i-a.w) u v (by rw[List.getElem?_drop];rw[show a.w+(i-a.w)=i by omega];exact hu) hv
 | .li r,row,K,h=>by
  simp only[G8] at h
  have one:∀ (u:T) (l:List r.den),(∀ w own v,aU w own u v→aU w own (.sl false (l.map r.enc)) v)→Wk [u] (Sy.enc (.li r) l):=by
   intro u l hw
   refine ⟨rfl,fun i x y hx hy=>?_⟩
   match i with
   | 0=>simp at hx;simp only[Sy.enc] at hy;simp at hy;subst hx;subst hy;exact hw
   | i+1=>simp at hx
  split at h
  ·rename_i f rows
   obtain ⟨l,h1,h2⟩:=h
   exact ⟨l,h2,one _ _ fun w own v hv=>by rw[←h1];exact LU hv⟩
  ·refine ⟨[],h,one _ _ fun w own v hv=>?_⟩
   cases hv;exact .aV false none 0 (by simp) (by simp)
  ·refine ⟨[],h,one _ _ fun w own v hv=>?_⟩
   cases hv with
   | ne _ a cap hf=>exact .aV false (some a) cap (by simp) (by simp)
  ·exact h.elim
def vO:Loc:=⟨0,0,0,0,0⟩
structure GH (τ:Nat→Option aB) (st:St) (cx:Cx) (ρ:Nat→Option Loc) (m:Nat) (w:World) (own':Nat→Prop):Prop where
 inv:Inv cx ρ st.σ m w
 sub:∀ b,own' b→aF cx ρ st.σ b
 T7:∀ k x,τ k=some x→st.σ k=some x
 U0:∀ k x l,τ k=some x→ρ k=some l→0<l.L+l.C→¬ own' l.aG
theorem GH.c0 {τ:Nat→Option aB} {st:St} {cx:Cx} {ρ:Nat→Option Loc} {m:Nat} {w:World} {own':Nat→Prop} (h:GH τ st cx ρ m w own') {k:Nat} {d:D} {t:T} {v:Value} (hd:Rd w (aF cx ρ st.σ) ρ d v) (hf:Go.Pv.c0 τ k d=some t):aU w own' t v :=
 o1 h.inv h.sub h.T7 h.U0 k hd hf
structure l9 (n:Nat) (τ:Nat→Option aB) (sr:List (Option Nat)) (st:St) (x y:aB):Prop where
 ok:∀ (cx:Cx) (m:Nat) (w:World) (own':Nat→Prop) (ρ ρ':Nat→Option Loc) (l:Loc),(∀ k,k<n→ρ' k=ρ k)→(∀ j src,sr[j]? = some src→ρ' (n+j)=match src with
  | some k=>ρ k
  | none=>some vO)→GH τ st cx ρ m w own'→dL w (aF cx ρ st.σ) ρ l x→dL w own' ρ' l y
 wr:bS x=true
def SP (n:Nat) (τ:Nat→Option aB) (π:Nat→Nat→Bool) (sr:List (Option Nat)) (st₀ st:St):(it:It)→it.den→Prop
 | .val t ag r,y=>∀ cx m ρ w own' v,GH τ st cx ρ m w own'→Rd w (aF cx ρ st.σ) ρ (st.s t) v→aU w own' (bI ag r y) v
 | .own t z r,y=>(∃ k rows,st.s t = .own k∧st.σ k=some (.arr false z rows)∧dU rows=List.map r.enc y)∨(y=([]:List r.den)∧∃ tt,st.s t = .p tt∧bT tt=some (true,[]))
 | .box k r,y=>∃ cells ts,st.σ k=some (.rows false [cells])∧(jG π k 0 cells).mapM (c0 τ 4)=some ts∧Wk ts (r.enc y)
 | .map k kr ag r,y=>∃ x,st.σ k=some x∧l9 n τ sr st x (.map false (List.map (qH kr ag r) y))
 | .gU k,y=>∃ x,st.σ k=some x∧l9 n τ sr st x (.gU y.1 y.2)
 | .fA k m,y=>∃ x,st.σ k=some x∧l9 n τ sr st x (.fA m y.1 y.2.1 y.2.2)
 | .fix k,_=>∃ x,st.σ k=some x∧st₀.σ k=some x∧bS x=true
 | .arr k z r,y=>∃ x,st.σ k=some x∧l9 n τ sr st x (.arr false z (List.map r.enc y))
 | .bP k,y=>∃ x,st.σ k=some x∧l9 n τ sr st x (.bP y.1 y.2.1 y.2.2.1 y.2.2.2)
 | .drop _,_=>True
 | .qG k o z r,y=>∃ cells c,st.σ k=some (.rows false [cells])∧cells[o]? = some c∧((∃ k' rows,c = .own k'∧st.σ k'=some (.arr false z rows)∧dU rows=List.map r.enc y)∨(y=([]:List r.den)∧∃ tt,c = .p tt∧bT tt=some (true,[])))
def kE (n:Nat) (τ:Nat→Option aB) (π:Nat→Nat→Bool) (sr:List (Option Nat)) (st₀ st:St):(its:List It)→oO.den its→Prop
 | [],_=>True
 | it::l,y=>SP n τ π sr st₀ st it y.1∧kE n τ π sr st₀ st l y.2
def EV (n:Nat) (st₀ st:St) (its:List It) (y:oO.den its):Prop:=kE n (EN its st₀ st) (gJ its) (dE its st) st₀ st its y
theorem jH {π:Nat→Nat→Bool} {k:Nat}:∀ {cells:List D} {i:Nat},(jG π k i cells).length=cells.length
 | [],_=>rfl
 | c::l,i=>by simp only[jG,List.length_cons,jH (cells:=l)]
theorem sF {π:Nat→Nat→Bool} {k:Nat}:∀ {cells:List D} {i q:Nat} (h:q<cells.length),π k (i+q)=false→(jG π k i cells)[q]'(by rw[jH];exact h)=cells[q]
 | c::l,i,0,h,hp=>by
  simp only[jG,List.getElem_cons_zero]
  rw[show π k i=false from hp]
 | c::l,i,q+1,h,hp=>by
  simp only[jG,List.getElem_cons_succ]
  exact sF (by simpa using h) (by rw[←hp];congr 1;omega)
structure JF (π:Nat→Nat→Bool) (n k:Nat) (sr:List (Option Nat)) (cells:List D) (base row:List D):Prop where
 len:row.length=base.length
 at_:∀ i c,row[i]? = some c→(π k i=false∧base[i]? = some c)∨(π k i=true∧∃ j src,c = .own (n+j)∧sr[j]? = some src∧((∃ k',cells[i]? = some (.own k')∧src=some k')∨(src=none∧∃ tt,cells[i]? = some (.p tt)∧bT tt=some (true,[]))))
theorem BT {w:World} {own:Nat→Prop} {tt:T} {v:Value} (h:aU w own tt v) (hr:bT tt=some (true,[])):∃ a,v = .slice a 0 0:=by
 unfold bT at hr
 split at hr
 ·cases hr
  cases h with
  | aV _ a cap hf hn=>rw[hf rfl];exact ⟨a,rfl⟩
  | sl _ _ sz b o cap g h1 h2 h3 h4 h45 h5 h6 h7 h8=>have:=h3 rfl;simp at this;subst this;exact ⟨_,rfl⟩
 ·cases hr;cases h;exact ⟨none,rfl⟩
 ·cases hr
  cases h with
  | ne _ a cap hf=>exact ⟨some a,by rw[hf rfl]⟩
 ·cases hr
theorem zI {w:World} {own:Nat→Prop} {a b:List T} (h:Wk a b) {v:Value} (hv:aU w own (.agg a) v):aU w own (.agg b) v:=by
 cases hv with
 | agg _ vs h1 h2 =>
  refine .agg b vs (by rw[h1,h.1]) fun i hi=>?_
  have hi':i<a.length:=by rw[h.1];exact hi
  exact h.2 i a[i] b[i] (by simp[hi']) (by simp[hi]) _ _ _ (h2 i hi')
theorem MF {w:World} {own:Nat→Prop} {x:T} {b:List T} (h:Wk [x] b) {v:Value} (hv:aU w own x v):aU w own (R9 b) v:=by
 have hl:=h.1
 match b,hl with
 | [y],_=>exact h.2 0 x y rfl rfl _ _ _ hv
theorem CX {n k:Nat} {τ:Nat→Option aB} {π:Nat→Nat→Bool} {sr:List (Option Nat)} {st:St} {cells:List D} {ts ts':List T} {row:List D} (hm:(jG π k 0 cells).mapM (c0 τ 4)=some ts) (h:Wk ts ts') (hw:JF π n k sr cells (ts'.map .p) row):l9 n τ sr st (.rows false [cells]) (.rows false [row]):=by
 refine ⟨fun cx m w own' ρ ρ' l hρ hs hzz hb=>?_,rfl⟩
 obtain ⟨m1,m2⟩:=mapM_some_length hm
 rw[jH] at m1
 refine ⟨fun h0=>?_,fun h0=>by obtain ⟨_,_,e⟩:=hb.2 h0;cases e⟩
 obtain ⟨o,h1,h2⟩:=hb.1 h0
 refine ⟨o,h1,?_⟩
 have hlen:row.length=cells.length:=by rw[hw.len,List.length_map,←h.1,m1]
 cases h2 with
 | rows _ rs c hr hz h2 =>
  cases hr
  refine .rows _ [row] c rfl (fun _ _ _ e=>by cases e) ⟨h2.size,h2.pos,h2.small,h2.len,h2.AE,fun r hr=>?_,fun i j hi hj=>?_,h2.one⟩
  ·have:=h2.width cells (by simp)
   simp only[List.mem_singleton] at hr
   subst hr
   rw[hlen]
   exact this
  ·have hi0:i=0:=by simpa using hi
   subst hi0
   simp only[List.getElem_cons_zero] at hj
   have hj2:j<cells.length:=by omega
   have hj':j<ts.length:=by omega
   obtain ⟨v,e1,e2⟩:=h2.cell 0 j (by simp) (by simpa using hj2)
   refine ⟨v,e1,?_⟩
   simp only[List.getElem_cons_zero] at e2 ⊢
   rcases hw.at_ j row[j] (by simp[hj]) with ⟨p1,p2⟩|⟨p1,q,src,p2,p3,p4⟩
   ·have e3:row[j] = .p (ts'[j]'(by rw[←h.1];exact hj')):=by
     have:=List.getElem?_eq_some_iff.1 p2
     obtain ⟨_,g⟩:=this
     rw[←g,List.getElem_map]
    rw[e3]
    refine .p _ _ (h.2 j ts[j] _ (by simp[hj']) (by simp[h.1 ▸ hj']) _ _ _ (hzz.c0 (k:=4) e2 ?_))
    have:=m2 j (by rw[jH];exact hj2) hj'
    rw[sF hj2 (by rw[Nat.zero_add];exact p1)] at this
    exact this
   ·rw[p2]
    have h3:=hs q src p3
    have hc:cells[j]? = some cells[j]:=by simp[hj2]
    rcases p4 with ⟨k',g1,rfl⟩|⟨rfl,tt,g1,g2⟩
    ·rw[hc] at g1
     rw[Option.some.inj g1] at e2
     simp only at h3
     cases e2 with
     | own _ lo hl hL h4 h5=>exact .own _ lo (h3.trans hl) hL h4 h5
     | bG _ lo a hl hL=>exact .bG _ lo a (h3.trans hl) hL
    ·rw[hc] at g1
     rw[Option.some.inj g1] at e2
     cases e2 with
     | p _ _ e2 =>
      obtain ⟨a,rfl⟩:=BT e2 g2
      exact .bG _ vO a h3 rfl
theorem M8 {w:World} {own:Nat→Prop} {ρ:Nat→Option Loc} {e:Value×D} {v:Value} (h:Rd w own ρ e.2 v):Rd w own ρ (z8 e).2 v:=by
 unfold z8
 split
 ·rename_i t ht
  rw[ht] at h
  cases h with
  | p _ _ h=>exact .p _ _ (h.canon 1)
 ·exact h
theorem JT (e:Value×D):(z8 e).1=e.1:=by unfold z8;split<;>rfl
theorem GO {n:Nat} {τ:Nat→Option aB} {sr:List (Option Nat)} {st:St} {es:List (Value×D)} {kr:Sy} {ag:Bool} {r:Sy} {l:List (kr.den×r.den)} (h:es.map z8=l.map (qH kr ag r)):l9 n τ sr st (.map false es) (.map false (l.map (qH kr ag r))):=by
 refine ⟨fun cx m w own' ρ ρ' lo hρ _ hz hb=>?_,rfl⟩
 refine ⟨fun h0=>?_,fun h0=>by obtain ⟨_,_,e⟩:=hb.2 h0;cases e⟩
 obtain ⟨o,h1,h2⟩:=hb.1 h0
 refine ⟨o,h1,?_⟩
 cases h2 with
 | rows _ rs c hr hz h2=>simp[bF] at hr
 | map _ _ ents e1 e2 =>
  have hlen:es.length=(l.map (qH kr ag r)).length:=by rw[←h];simp
  rw[hlen]
  refine .map false _ ents (by omega) fun i hi=>?_
  have hi':i<es.length:=by omega
  obtain ⟨e,g1,g2,g3,g4⟩:=e2 i hi'
  have he:(l.map (qH kr ag r))[i]=z8 es[i]:=by
   have:(es.map z8)[i]'(by simpa using hi')=(l.map (qH kr ag r))[i]:=by congr 1
   rw[←this];simp
  have hp:∃ t,(l.map (qH kr ag r))[i].2 = .p t:=by simp only[List.getElem_map];exact ⟨_,rfl⟩
  refine ⟨e,g1,?_,g3,?_⟩
  ·rw[he,JT];exact g2
  ·have g5:=M8 g4
   rw[←he] at g5
   obtain ⟨t,ht⟩:=hp
   rw[ht] at g5 ⊢
   cases g5 with
   | p _ _ g5=>exact .p _ _ (g5.less hz.sub)
theorem sH {w:World} {own own':Nat→Prop} {ρ ρ':Nat→Option Loc} {l:Loc} {ro:Bool} {z:Nat} {rows:List (List T)} (ho:∀ b,own' b→own b) (h:dL w own ρ l (.arr ro z rows)):dL w own' ρ' l (.arr ro z (dU rows)):=by
 refine ⟨fun h0=>?_,fun h0=>?_⟩
 ·obtain ⟨o,h1,h2⟩:=h.1 h0
  refine ⟨o,h1,?_⟩
  cases h2 with
  | rows _ rs c hr hz h2 =>
   cases hr
   have hl:(aA (dU rows)).length=(aA rows).length:=by simp[aA,dU]
   refine .rows _ (aA (dU rows)) c rfl (fun _ _ _ e=>by cases e;exact hz _ _ _ rfl) ⟨h2.size,h2.pos,by have:=h2.small;omega,by have:=h2.len;omega,by have:=h2.AE;omega,fun r hr=>?_,fun i j hi hj=>?_,h2.one⟩
   ·simp only[aA,dU,List.map_map,List.mem_map,Function.comp] at hr
    obtain ⟨r',hr',rfl⟩:=hr
    have:=h2.width (r'.map .p) (by simp only[aA,List.mem_map];exact ⟨r',hr',rfl⟩)
    simpa using this
   ·have hi':i<rows.length:=by simpa [aA,dU] using hi
    have e1:(aA (dU rows))[i]=(rows[i].map (T.canon 0)).map .p:=by simp[aA,dU]
    have hj':j<rows[i].length:=by rw[e1] at hj;simpa using hj
    have e3:(aA rows)[i]'(by simpa using hi')=rows[i].map .p:=by simp[aA]
    obtain ⟨v,g1,g2⟩:=h2.cell i j (by simpa using hi') (by rw[e3];simpa using hj')
    refine ⟨v,g1,?_⟩
    have e2:(aA (dU rows))[i][j] = .p (T.canon 0 rows[i][j]):=by simp[aA,dU]
    have e4:((aA rows)[i]'(by simpa using hi'))[j]'(by rw[e3];simpa using hj') = .p rows[i][j]:=by simp[aA]
    rw[e4] at g2
    rw[e2]
    cases g2 with
    | p _ _ g2=>exact .p _ _ ((g2.canon 0).less ho)
 ·obtain ⟨_,_,e⟩:=h.2 h0
  cases e
  exact ⟨_,_,rfl⟩
theorem J4 {n:Nat} {τ:Nat→Option aB} {π:Nat→Nat→Bool} {sr:List (Option Nat)} {st₀ st:St} {it:It} {K:it.den→Prop} (hm:rE n [it]=true) (h:IQ bC τ π st₀ st it K):∃ y,K y∧SP n τ π sr st₀ st it y:=by
 cases it with
 | val t ag r =>
  simp only[IQ] at h
  split at h
  ·rename_i cs hs
   obtain ⟨y,h1,h2⟩:=iR h
   exact ⟨y,h1,fun cx m ρ w own' v hz hv=>zI h2 (hz.c0 hv hs)⟩
  ·rename_i vs hs
   obtain ⟨y,h1,h2⟩:=iR h
   refine ⟨y,h1,fun cx m ρ w own' v hz hv=>?_⟩
   have hv:=hz.c0 hv hs
   cases hv
   exact zI h2 (.agg _ _ (aY.vs (R:=aU w own') (g:=T.v) .v _).1 (aY.vs (R:=aU w own') (g:=T.v) .v _).2)
  ·rename_i x hs
   obtain ⟨y,h1,h2⟩:=iR h
   exact ⟨y,h1,fun cx m ρ w own' v hz hv=>MF h2 (hz.c0 hv hs)⟩
  ·exact h.elim
 | own t z r =>
  simp only[IQ] at h
  split at h
  ·rename_i k hs
   split at h
   ·rename_i ro z' rows hσ
    split at h
    ·rename_i hc
     simp only[Bool.and_eq_true,Bool.not_eq_true',beq_iff_eq] at hc
     obtain ⟨rfl,rfl⟩:=hc
     obtain ⟨l,h1,h2⟩:=h
     exact ⟨l,h2,.inl ⟨k,rows,hs,hσ,h1⟩⟩
    ·exact h.elim
   ·exact h.elim
  ·rename_i tt hs
   split at h
   ·rename_i hr
    exact ⟨[],h,.inr ⟨rfl,tt,hs,hr⟩⟩
   ·exact h.elim
  ·exact h.elim
 | box k r =>
  simp only[IQ] at h
  split at h
  ·rename_i ro cells hσ
   split at h
   ·rename_i ts hts
    obtain ⟨y,h1,h2⟩:=iR h
    exact ⟨y,h1,cells,ts,hσ,hts,h2⟩
   ·exact h.elim
  ·exact h.elim
 | map k kr ag r =>
  simp only[IQ] at h
  split at h
  ·rename_i ro es hσ
   split at h
   ·obtain ⟨l,h1,h2⟩:=h
    exact ⟨l,h2,_,hσ,GO h1⟩
   ·exact h.elim
  ·exact h.elim
 | gU k =>
  simp only[IQ] at h
  split at h
  ·rename_i s pos hσ
   exact ⟨(s,pos),h,_,hσ,fun cx m w own' ρ ρ' l hρ _ hz hb=>hb.cut hρ hz.sub trivial,rfl⟩
  ·exact h.elim
 | fA k m =>
  simp only[IQ] at h
  split at h
  ·rename_i m' since seen last hσ
   split at h
   ·rename_i hm'
    have hm':=of_decide_eq_true hm'
    subst hm'
    refine ⟨(since,seen,last),h,_,hσ,fun cx m w own' ρ ρ' l hρ _ hz hb=>hb.cut hρ hz.sub ?_,rfl⟩
    intro km hkm
    subst hkm
    simpa [rE] using hm
   ·exact h.elim
  ·exact h.elim
 | fix k =>
  simp only[IQ] at h
  split at h
  ·rename_i x y hx hy
   split at h
   ·rename_i hw
    obtain ⟨rfl,h⟩:=h
    exact ⟨(),h,_,hx,hy,hw⟩
   ·exact h.elim
  ·exact h.elim
 | arr k z r =>
  simp only[IQ] at h
  split at h
  ·rename_i ro z' rows hσ
   split at h
   ·rename_i hc
    simp only[Bool.and_eq_true,Bool.not_eq_true',beq_iff_eq] at hc
    obtain ⟨rfl,rfl⟩:=hc
    obtain ⟨l,h1,h2⟩:=h
    refine ⟨l,h2,_,hσ,fun cx m w own' ρ ρ' lo hρ _ hz hb=>?_,rfl⟩
    rw[←h1]
    exact sH hz.sub hb
   ·exact h.elim
  ·exact h.elim
 | bP k =>
  simp only[IQ] at h
  split at h
  ·rename_i es since seen last hσ
   exact ⟨(es,since,seen,last),h,_,hσ,fun cx m w own' ρ ρ' l hρ _ hz hb=>hb.cut hρ hz.sub trivial,rfl⟩
  ·exact h.elim
 | drop k=>exact ⟨(),h,trivial⟩
 | qG k o z r =>
  simp only[IQ] at h
  split at h
  ·rename_i cells hσ
   split at h
   ·rename_i k' hc
    split at h
    ·rename_i ro z' rows hσ'
     split at h
     ·rename_i hw
      simp only[Bool.and_eq_true,Bool.not_eq_true',beq_iff_eq] at hw
      obtain ⟨rfl,rfl⟩:=hw
      obtain ⟨l,h1,h2⟩:=h
      exact ⟨l,h2,cells,_,hσ,hc,.inl ⟨k',rows,rfl,hσ',h1⟩⟩
     ·exact h.elim
    ·exact h.elim
   ·rename_i tt hc
    split at h
    ·rename_i hr
     exact ⟨[],h,cells,_,hσ,hc,.inr ⟨rfl,tt,rfl,hr⟩⟩
    ·exact h.elim
   ·exact h.elim
  ·exact h.elim
theorem H3 {n:Nat} {it:It} {l:List It} (h:rE n (it::l)=true):rE n [it]=true∧rE n l=true:=by
 cases it with
 | fA k m=>cases m<;>simp[rE] at h ⊢ <;> exact h
 | _=>exact ⟨rfl,h⟩
theorem pR {n:Nat} {τ:Nat→Option aB} {π:Nat→Nat→Bool} {sr:List (Option Nat)} {st₀ st:St}:∀ {its:List It} {K:oO.den its→Prop},rE n its=true→x5 bC τ π st₀ st its K→∃ y,K y∧kE n τ π sr st₀ st its y
 | [],K,_,h=>⟨(),h,trivial⟩
 | it::l,K,hm,h=>by
  obtain ⟨m1,m2⟩:=H3 hm
  simp only[x5] at h
  obtain ⟨x,h1,h2⟩:=J4 (sr:=sr) m1 h
  obtain ⟨y,h3,h4⟩:=pR (sr:=sr) m2 h1
  exact ⟨(x,y),h3,h2,h4⟩
theorem sV {n:Nat} {st₀ st:St} {its:List It} {K:oO.den its→Prop} (hm:rE n its=true) (h:J5 bC st₀ st its K):∃ y,K y∧EV n st₀ st its y:=pR hm h
end Go.Pv
