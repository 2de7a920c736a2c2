/-
  The symbolic executor, part d: where ways come together: a state of which only typed data are known.
-/
import Derived.Test.YtjledgajjgkbhaaGreatDoorVapkc
set_option linter.defProp false
set_option linter.unusedSimpArgs false
namespace Go.Pv
open Go Go.RowKit
inductive QS (n:Nat):D→Prop
 | p (t:T):QS n (.p t)
 | agg (cs:List D):(∀ i (h:i<cs.length),QS n cs[i])→QS n (.agg cs)
 | bZ (cs:List D):(∀ i (h:i<cs.length),QS n cs[i])→QS n (.bZ cs)
 | ptr (k i j:Nat):k<n→QS n (.ptr k i j)
 | own (k:Nat):k<n→QS n (.own k)
 | bs (k o l:Nat):k<n→QS n (.bs k o l)
 | map (k:Nat):k<n→QS n (.map k)
 | it (k:Nat):k<n→QS n (.it k)
 | fn (f:FuncId) (a b:List D):(∀ i (h:i<a.length),QS n a[i])→(∀ i (h:i<b.length),QS n b[i])→QS n (.fn f a b)
 | rL (g:Bool) (d:D):QS n d→QS n (.cond g d)
 | AZ (d:D):QS n (.cond false d)
 | any:QS n .any
section
variable {w : World} {own own' : Nat → Prop} {ρ ρ' : Nat → Option Loc} {n : Nat}
theorem Rd.blw (hρ:∀ k l,ρ k=some l→k<n) {d:D} {v:Value} (h:Rd w own ρ d v):QS n d:=by
 induction h with
 | p t x h=>exact .p t
 | agg cs vs hs _ ih=>exact .agg cs ih
 | bZ cs vs hs _ ih=>exact .bZ cs ih
 | ptr k i j l h=>exact .ptr k i j (hρ _ _ h)
 | own k l h h0 h2 h3=>exact .own k (hρ _ _ h)
 | c0 k l a h h0=>exact .own k (hρ _ _ h)
 | bs k off len l h h2 h3=>exact .bs k off len (hρ _ _ h)
 | map k l h=>exact .map k (hρ _ _ h)
 | it k l h=>exact .it k (hρ _ _ h)
 | fn f fs cs va vb h1 h2 _ _ ih1 ih2=>exact .fn f fs cs ih1 ih2
 | rL d v _ ih=>exact .rL _ d ih
 | AZ d=>exact .AZ d
 | any v=>exact .any
theorem Rd.cut (hρ:∀ k,k<n→ρ' k=ρ k) (ho:∀ b,own' b→own b) {d:D} {v:Value} (h:Rd w own ρ d v) (hb:QS n d):Rd w own' ρ' d v:=by
 induction h with
 | p t x h=>exact .p t x (h.less ho)
 | agg cs vs hs _ ih=>cases hb with|agg _ hb=>exact .agg cs vs hs fun i hi=>ih i hi (hb i hi)
 | bZ cs vs hs _ ih=>cases hb with|bZ _ hb=>exact .bZ cs vs hs fun i hi=>ih i hi (hb i hi)
 | ptr k i j l h=>cases hb with|ptr _ _ _ hk=>exact .ptr k i j l ((hρ k hk).trans h)
 | own k l h h0 h2 h3=>cases hb with|own _ hk=>exact .own k l ((hρ k hk).trans h) h0 h2 h3
 | c0 k l a h h0=>cases hb with|own _ hk=>exact .c0 k l a ((hρ k hk).trans h) h0
 | bs k off len l h h2 h3=>cases hb with|bs _ _ _ hk=>exact .bs k off len l ((hρ k hk).trans h) h2 h3
 | map k l h=>cases hb with|map _ hk=>exact .map k l ((hρ k hk).trans h)
 | it k l h=>cases hb with|it _ hk=>exact .it k l ((hρ k hk).trans h)
 | fn f fs cs va vb h1 h2 _ _ ih1 ih2=>cases hb with|fn _ _ _ hb1 hb2=>exact .fn f fs cs va vb h1 h2 (fun i hi=>ih1 i hi (hb1 i hi)) (fun i hi=>ih2 i hi (hb2 i hi))
 | rL d v _ ih=>cases hb with|rL _ _ hb=>exact .rL d v (ih hb)
 | AZ d=>exact .AZ d
 | any v=>exact .any v
end
def UF (n:Nat):bB→Prop
 | .rows _ rs=>∀ i (hi:i<rs.length) j (hj:j<rs[i].length),QS n rs[i][j]
 | .arr _ _ _=>True
 | .map _ es=>∀ i (h:i<es.length),QS n es[i].2
 | .kT _ _=>True
 | .nJ m _ _ _=>∀ k,m=some k→k<n
 | .cD _ _ _ _=>True
 | .held=>True
def lock:bB→bB
 | .rows _ rs=>.rows true rs
 | .arr _ z rows=>.arr true z rows
 | .map _ es=>.map true es
 | x=>x
section
variable {w : World} {own own' : Nat → Prop} {ρ ρ' : Nat → Option Loc} {n : Nat} {l : Loc} {x y : bB}
theorem fF.blw (hρ:∀ k l,ρ k=some l→k<n) (h:fF w own ρ l x):UF n x:=by
 rcases Nat.eq_zero_or_pos (l.L+l.C) with h0|h0
 ·obtain ⟨ro,z,rfl⟩:=h.2 h0;trivial
 ·obtain ⟨o,_,hb⟩:=h.1 h0
  cases hb with
  | rows _ rs c hr hz h' =>
   cases x with
   | rows ro rs'=>cases hr;exact fun i hi j hj=>let ⟨v,_,hv⟩:=h'.cell i j hi hj;hv.blw hρ
   | arr ro z rows=>trivial
   | _=>simp[eC] at hr
  | map ro es ents h1 h2=>exact fun i hi=>let ⟨e,_,_,_,hv⟩:=h2 i hi;hv.blw hρ
  | kT s pos=>trivial
  | nJ m l' since seen last h'=>exact fun k hk=>by cases hk;exact hρ _ _ h'
  | sE=>exact fun k hk=>by cases hk
  | cD=>trivial
  | held o=>trivial
theorem KZ {rows:List (List T)} {i j:Nat} (hi:i<(aU rows).length) (hj:j<(aU rows)[i].length):∃ t,(aU rows)[i][j] = .p t:=by
 simp only[aU,List.getElem_map];exact ⟨_,rfl⟩
theorem fF.cut (hρ:∀ k,k<n→ρ' k=ρ k) (ho:∀ b,own' b→own b) (h:fF w own ρ l x) (hb:UF n x):fF w own' ρ' l x:=by
 refine ⟨fun h0=>?_,h.2⟩
 obtain ⟨o,ho',hx⟩:=h.1 h0
 refine ⟨o,ho',?_⟩
 cases hx with
 | rows _ rs c hr hz h' =>
  refine .rows x rs c hr hz ⟨h'.size,h'.pos,h'.small,h'.len,h'.VU,h'.width,fun i j hi hj=>?_,h'.one⟩
  obtain ⟨v,h1,h2⟩:=h'.cell i j hi hj
  refine ⟨v,h1,h2.cut hρ ho ?_⟩
  cases x with
  | rows ro rs'=>cases hr;exact hb i hi j hj
  | arr ro z rows=>cases hr;obtain ⟨t,ht⟩:=KZ hi hj;rw[ht];exact .p t
  | _=>simp[eC] at hr
 | map ro es ents h1 h2=>exact .map ro es ents h1 fun i hi=>let ⟨e,a,b,c,hv⟩:=h2 i hi;⟨e,a,b,c,hv.cut hρ ho (hb i hi)⟩
 | kT s pos=>exact .kT s pos
 | nJ m l' since seen last h'=>exact .nJ m l' since seen last ((hρ m (hb m rfl)).trans h')
 | sE=>exact .sE
 | cD es b since seen last h'=>exact .cD es b since seen last (h'.less ho)
 | held o=>exact .held o
theorem fF.W9 (hxy:lock x=lock y) (h:fF w own ρ l x):fF w own ρ l y:=by
 refine ⟨fun h0=>?_,fun h0=>?_⟩
 ·obtain ⟨o,ho',hx⟩:=h.1 h0
  refine ⟨o,ho',?_⟩
  cases hx with
  | rows _ rs c hr hz h' =>
   cases x with
   | rows ro rs' =>
    cases y<;>simp only[lock,bB.rows.injEq,reduceCtorEq] at hxy
    obtain ⟨_,rfl⟩:=hxy
    exact .rows _ rs c hr (fun _ _ _ e=>by cases e) h'
   | arr ro z rows =>
    cases y<;>simp only[lock,bB.arr.injEq,reduceCtorEq] at hxy
    obtain ⟨_,rfl,rfl⟩:=hxy
    exact .rows _ rs c hr (fun _ _ _ e=>by cases e;exact hz _ _ _ rfl) h'
   | _=>simp[eC] at hr
  | map ro es ents h1 h2 =>
   cases y<;>simp only[lock,bB.map.injEq,reduceCtorEq] at hxy
   obtain ⟨_,rfl⟩:=hxy
   exact .map _ es ents h1 h2
  | kT s pos=>cases y<;>simp only[lock,reduceCtorEq] at hxy;cases hxy;exact .kT s pos
  | nJ m l' since seen last h'=>cases y<;>simp only[lock,reduceCtorEq] at hxy;cases hxy;exact .nJ m l' since seen last h'
  | sE=>cases y<;>simp only[lock,reduceCtorEq] at hxy;cases hxy;exact .sE
  | cD es b since seen last h'=>cases y<;>simp only[lock,reduceCtorEq] at hxy;cases hxy;exact .cD es b since seen last h'
  | held o=>cases y<;>simp only[lock,reduceCtorEq] at hxy;exact .held o
 ·obtain ⟨ro,z,rfl⟩:=h.2 h0
  cases y<;>simp only[lock,bB.arr.injEq,reduceCtorEq] at hxy
  simp_all
theorem zK (x:bB):lock (lock x)=lock x:=by cases x<;>rfl
theorem A5Z (h:gM x=false):gM (lock x)=false:=by cases x<;>first|rfl|exact h
end
inductive It where
 | val (t:Tmp) (ag:Bool) (r:Sy)
 | own (t:Tmp) (z:Nat) (r:Sy)
 | box (k:Nat) (r:Sy)
 | map (k:Nat) (kr:Sy) (ag:Bool) (r:Sy)
 | kT (k:Nat)
 | nJ (k:Nat) (m:Option Nat)
 | fix (k:Nat)
 | arr (k:Nat) (z:Nat) (r:Sy)
 | cD (k:Nat)
 | drop (k:Nat)
 | HA (k o z:Nat) (r:Sy)
abbrev It.den:It→Type
 | .val _ _ r=>r.den
 | .own _ _ r=>List r.den
 | .box _ r=>r.den
 | .map _ kr _ r=>List (kr.den×r.den)
 | .kT _=>ByteArray×Nat
 | .nJ _ _=>Nat×List Nat×Nat
 | .fix _=>Unit
 | .arr _ _ r=>List r.den
 | .cD _=>List (Value×T)×Nat×List Nat×Nat
 | .drop _=>Unit
 | .HA _ _ _ r=>List r.den
abbrev G6.den:List It→Type
 | []=>Unit
 | a::l=>a.den×G6.den l
def OQ (kr:Sy) (x:kr.den):Value:=match hdT (kr.enc x) with
 | .v x=>x
 | _=>undef
def cW (kr:Sy) (ag:Bool) (r:Sy) (e:kr.den×r.den):Value×D:=(OQ kr e.1,.p (aF ag r e.2))
def VR (e:Value×D):Value×D:=match e.2 with
 | .p t=>(e.1,.p (t.canon 1))
 | _=>e
def eJ (kr:Sy) (ag:Bool) (r:Sy) (es:List (Value×D)) (K:List (kr.den×r.den)→Prop):Prop:=∃ l,es.map VR=l.map (cW kr ag r)∧K l
def xA (n:Nat) (seen:List Nat) (A:Prop) (B:Nat→Prop):Prop:=(dA n seen=[]→A)∧∀ i,i∈dA n seen→B i
def KE (kr:Sy) (ag:Bool) (r:Sy) (es:List (Value×D)) (seen:List Nat) (K:kr.den→r.den→Prop):Prop:=∃ i x y,seen.getLast? = some i∧es[i]? = some (cW kr ag r (x,y))∧K x y
def gN (x y:bB) (K:Prop):Prop:=x=y∧K
def BD8 (A B:Prop):Prop:=A∧B
structure fP extends Combs where
 BEE:(kr:Sy)→(ag:Bool)→(r:Sy)→List (Value×D)→(List (kr.den×r.den)→Prop)→Prop
 each:Nat→List Nat→Prop→(Nat→Prop)→Prop
 ent:(kr:Sy)→(ag:Bool)→(r:Sy)→List (Value×D)→List Nat→(kr.den→r.den→Prop)→Prop
 same:bB→bB→Prop→Prop
 both:Prop→Prop→Prop
def bR:fP:={ nF with BEE:=eJ,each:=xA,ent:=KE,same:=gN,both:=BD8 }
section
variable (C : fP)
def exV:(r:Sy)→List T→(r.den→Prop)→Prop
 | .int k,row,K=>match row with
  | [.v (.int k' n)]=>match decide (k'=k) with
   | true=>K n
   | false=>C.bad 301
  | _=>C.bad 302
 | .bool,row,K=>match row with
  | [.v (.bool b)]=>K b
  | _=>C.bad 303
 | .str,row,K=>match row with
  | [.v (.string s)]=>K s
  | _=>C.bad 304
 | .any,row,K=>match row with
  | [x]=>K x
  | _=>C.bad 305
 | .pr a b,row,K=>exV a (row.take a.w) fun x=>exV b (row.drop a.w) fun y=>K (x,y)
 | .li r,row,K=>match row with
  | [.sl _ rows]=>C.dec r rows K
  | [.v (.slice none 0 0)]=>K []
  | [.ne _]=>K []
  | _=>C.bad 306
def uN (π:Nat→Nat→Bool) (k:Nat):Nat→List D→List D
 | _,[]=>[]
 | i,c::l=>(match π k i with
  | true=>.p (.sl false [])
  | false=>c)::uN π k (i+1) l
def BFE (τ:Nat→Option bB):Nat→List D→Nat
 | i,[]=>31600+i
 | i,c::l=>match iA τ 4 c with
  | some _=>BFE τ (i+1) l
  | none=>3160000+i*100+(match c with
   | .ptr _ _ _=>10
   | .own k=>match τ k with
    | some (.arr _ _ _)=>21
    | some _=>22
    | none=>20
   | .bs _ _ _=>30
   | .map _=>40
   | .it _=>50
   | .fn _ _ _=>60
   | .cond _ _=>70
   | .any=>80
   | _=>90)
def exI (τ:Nat→Option bB) (π:Nat→Nat→Bool) (st₀ st:St):(it:It)→(it.den→Prop)→Prop
 | .val t ag r,K=>match iA τ 4 (st.s t),ag with
  | some (.agg cs),true=>exV C r cs K
  | some (.v (.agg vs)),true=>exV C r (vs.toList.map .v) K
  | some x,false=>exV C r [x] K
  | _,_=>C.bad 311
 | .own t z r,K=>match st.s t with
  | .own k=>match st.σ k with
   | some (.arr ro z' rows)=>match !ro&&z' == z with
    | true=>C.dec r rows K
    | false=>C.bad 312
   | _=>C.bad 313
  | .p tt=>match fK tt with
   | some (true,[])=>K []
   | _=>C.bad 314
  | _=>C.bad 315
 | .box k r,K=>match st.σ k with
  | some (.rows ro [cells])=>match ro,(uN π k 0 cells).mapM (iA τ 4) with
   | false,some ts=>exV C r ts K
   | _,_=>C.bad (BFE τ 0 cells)
  | _=>C.bad 317
 | .map k kr ag r,K=>match st.σ k with
  | some (.map ro es)=>match ro with
   | false=>C.BEE kr ag r es K
   | true=>C.bad 318
  | _=>C.bad 319
 | .kT k,K=>match st.σ k with
  | some (.kT s pos)=>K (s,pos)
  | _=>C.bad 320
 | .nJ k m,K=>match st.σ k with
  | some (.nJ m' since seen last)=>match decide (m'=m) with
   | true=>K (since,seen,last)
   | false=>C.bad 321
  | _=>C.bad 322
 | .fix k,K=>match st.σ k,st₀.σ k with
  | some x,some y=>match gM x with
   | true=>C.same x y (K ())
   | false=>C.bad 324
  | _,_=>C.bad 325
 | .arr k z r,K=>match st.σ k with
  | some (.arr ro z' rows)=>match !ro&&z' == z with
   | true=>C.dec r rows K
   | false=>C.bad 326
  | _=>C.bad 327
 | .cD k,K=>match st.σ k with
  | some (.cD es since seen last)=>K (es,since,seen,last)
  | _=>C.bad 323
 | .drop _,K=>K ()
 | .HA k o z r,K=>match st.σ k with
  | some (.rows false [cells])=>match cells[o]? with
   | some (.own k')=>match st.σ k' with
    | some (.arr ro z' rows)=>match !ro&&z' == z with
     | true=>C.dec r rows K
     | false=>C.bad 332
    | _=>C.bad 333
   | some (.p tt)=>match fK tt with
    | some (true,[])=>K []
    | _=>C.bad 334
   | _=>C.bad 335
  | _=>C.bad 336
def AHD (τ:Nat→Option bB) (π:Nat→Nat→Bool) (st₀ st:St):(its:List It)→(G6.den its→Prop)→Prop
 | [],K=>K ()
 | it::l,K=>exI C τ π st₀ st it fun x=>AHD τ π st₀ st l fun y=>K (x,y)
end
def AO (n:Nat):(its:List It)→G6.den its→Nat→Nat→D
 | [],_,_,_=>.any
 | .val t ag r::l,y,j,i=>match i == t with
  | true=>.p (aF ag r y.1)
  | false=>AO n l y.2 j i
 | .own t _ _::l,y,j,i=>match i == t with
  | true=>.own (n+j)
  | false=>AO n l y.2 (j+1) i
 | .box _ _::l,y,j,i=>AO n l y.2 j i
 | .map _ _ _ _::l,y,j,i=>AO n l y.2 j i
 | .kT _::l,y,j,i=>AO n l y.2 j i
 | .nJ _ _::l,y,j,i=>AO n l y.2 j i
 | .fix _::l,y,j,i=>AO n l y.2 j i
 | .arr _ _ _::l,y,j,i=>AO n l y.2 j i
 | .cD _::l,y,j,i=>AO n l y.2 j i
 | .drop _::l,y,j,i=>AO n l y.2 j i
 | .HA _ _ _ _::l,y,j,i=>AO n l y.2 (j+1) i
def lP (f:Nat→List D→List D) (st₀:St):(its:List It)→G6.den its→Nat→Option bB
 | [],_,_=>none
 | .val _ _ _::l,y,i=>lP f st₀ l y.2 i
 | .own _ _ _::l,y,i=>lP f st₀ l y.2 i
 | .box k r::l,y,i=>match i == k with
  | true=>some (.rows false [f k ((r.enc y.1).map .p)])
  | false=>lP f st₀ l y.2 i
 | .map k kr ag r::l,y,i=>match i == k with
  | true=>some (.map false (y.1.map (cW kr ag r)))
  | false=>lP f st₀ l y.2 i
 | .kT k::l,y,i=>match i == k with
  | true=>some (.kT y.1.1 y.1.2)
  | false=>lP f st₀ l y.2 i
 | .nJ k m::l,y,i=>match i == k with
  | true=>some (.nJ m y.1.1 y.1.2.1 y.1.2.2)
  | false=>lP f st₀ l y.2 i
 | .fix k::l,y,i=>match i == k with
  | true=>st₀.σ k
  | false=>lP f st₀ l y.2 i
 | .arr k z r::l,y,i=>match i == k with
  | true=>some (.arr false z (y.1.map r.enc))
  | false=>lP f st₀ l y.2 i
 | .cD k::l,y,i=>match i == k with
  | true=>some (.cD y.1.1 y.1.2.1 y.1.2.2.1 y.1.2.2.2)
  | false=>lP f st₀ l y.2 i
 | .drop k::l,y,i=>match i == k with
  | true=>none
  | false=>lP f st₀ l y.2 i
 | .HA _ _ _ _::l,y,i=>lP f st₀ l y.2 i
def DX:(its:List It)→G6.den its→Nat→Option bB
 | [],_,_=>none
 | .own _ z r::l,y,j=>match j with
  | 0=>some (.arr false z (y.1.map r.enc))
  | j+1=>DX l y.2 j
 | .HA _ _ z r::l,y,j=>match j with
  | 0=>some (.arr false z (y.1.map r.enc))
  | j+1=>DX l y.2 j
 | .val _ _ _::l,y,j=>DX l y.2 j
 | .box _ _::l,y,j=>DX l y.2 j
 | .map _ _ _ _::l,y,j=>DX l y.2 j
 | .kT _::l,y,j=>DX l y.2 j
 | .nJ _ _::l,y,j=>DX l y.2 j
 | .fix _::l,y,j=>DX l y.2 j
 | .arr _ _ _::l,y,j=>DX l y.2 j
 | .cD _::l,y,j=>DX l y.2 j
 | .drop _::l,y,j=>DX l y.2 j
def yX (st:St) (k o:Nat):Option Nat:=match st.σ k with
 | some (.rows false [cells])=>match cells[o]? with
  | some (.own k')=>some k'
  | _=>none
 | _=>none
def p8:List It→Nat→Nat→Bool
 | [],_,_=>false
 | .HA k o _ _::l,k',o'=>(k' == k&&o' == o)||p8 l k' o'
 | _::l,k',o'=>p8 l k' o'
def PC (n:Nat):List It→Nat→Nat→List D→List D
 | [],_,_,row=>row
 | .own _ _ _::l,j,k,row=>PC n l (j+1) k row
 | .HA k' o _ _::l,j,k,row=>match k == k' with
  | true=>(PC n l (j+1) k row).set o (.own (n+j))
  | false=>PC n l (j+1) k row
 | _::l,j,k,row=>PC n l j k row
def jM:List It→St→List (Option Nat)
 | [],_=>[]
 | .own t _ _::l,st=>(match st.s t with
  | .own k=>some k
  | _=>none)::jM l st
 | .val _ _ _::l,st=>jM l st
 | .box _ _::l,st=>jM l st
 | .map _ _ _ _::l,st=>jM l st
 | .kT _::l,st=>jM l st
 | .nJ _ _::l,st=>jM l st
 | .fix _::l,st=>jM l st
 | .arr _ _ _::l,st=>jM l st
 | .cD _::l,st=>jM l st
 | .drop _::l,st=>jM l st
 | .HA k o _ _::l,st=>yX st k o::jM l st
def wQ:List It→Nat
 | []=>0
 | .own _ _ _::l=>wQ l+1
 | .val _ _ _::l=>wQ l
 | .box _ _::l=>wQ l
 | .map _ _ _ _::l=>wQ l
 | .kT _::l=>wQ l
 | .nJ _ _::l=>wQ l
 | .fix _::l=>wQ l
 | .arr _ _ _::l=>wQ l
 | .cD _::l=>wQ l
 | .drop _::l=>wQ l
 | .HA _ _ _ _::l=>wQ l+1
theorem jN:∀ (its:List It) (st:St),(jM its st).length=wQ its
 | [],_=>rfl
 | .own _ _ _::l,st=>by simp only[jM,wQ,List.length_cons,jN l st]
 | .val _ _ _::l,st=>jN l st
 | .box _ _::l,st=>jN l st
 | .map _ _ _ _::l,st=>jN l st
 | .kT _::l,st=>jN l st
 | .nJ _ _::l,st=>jN l st
 | .fix _::l,st=>jN l st
 | .arr _ _ _::l,st=>jN l st
 | .cD _::l,st=>jN l st
 | .drop _::l,st=>jN l st
 | .HA _ _ _ _::l,st=>by simp only[jM,wQ,List.length_cons,jN l st]
def AY:List It→Nat→Bool
 | [],_=>false
 | .box k _::l,i=>i == k||AY l i
 | .map k _ _ _::l,i=>i == k||AY l i
 | .kT k::l,i=>i == k||AY l i
 | .nJ k _::l,i=>i == k||AY l i
 | .fix k::l,i=>i == k||AY l i
 | .arr k _ _::l,i=>i == k||AY l i
 | .cD k::l,i=>i == k||AY l i
 | .drop k::l,i=>i == k||AY l i
 | .HA _ _ _ _::l,i=>AY l i
 | .val _ _ _::l,i=>AY l i
 | .own _ _ _::l,i=>AY l i
def KK (n:Nat):List It→Bool
 | []=>true
 | .nJ _ (some m)::l=>decide (m<n)&&KK n l
 | _::l=>KK n l
def ADE:bB→Bool
 | .kT _ _=>false
 | .nJ _ _ _ _=>false
 | .cD _ _ _ _=>false
 | _=>true
def AC6:List (Option Nat)→Nat→Bool
 | [],_=>false
 | some k::l,i=>i == k||AC6 l i
 | none::l,i=>AC6 l i
def kept (its:List It) (st₀:St) (k:Nat):Bool:=decide (k<st₀.n)&&match st₀.σ k with
 | some x=>!gM x||(!AY its k && !AC6 (jM its st₀) k&&ADE x)
 | none=>false
def apart:List (Option Nat)→Bool
 | []=>true
 | some k::l=>!AC6 l k&&apart l
 | none::l=>apart l
def J0 (its:List It) (st₀ st:St):Bool:=apart (jM its st)&&(jM its st).all (fun x=>match x with
 | some k=>!kept its st₀ k && !AY its k
 | none=>true)&&KK st₀.n its
def kY:List It→Nat→Bool
 | [],_=>false
 | .drop k::l,i=>i == k||kY l i
 | .box k _::l,i=>!(i == k)&&kY l i
 | .map k _ _ _::l,i=>!(i == k)&&kY l i
 | .kT k::l,i=>!(i == k)&&kY l i
 | .nJ k _::l,i=>!(i == k)&&kY l i
 | .fix k::l,i=>!(i == k)&&kY l i
 | .arr k _ _::l,i=>!(i == k)&&kY l i
 | .cD k::l,i=>!(i == k)&&kY l i
 | .val _ _ _::l,i=>kY l i
 | .own _ _ _::l,i=>kY l i
 | .HA _ _ _ _::l,i=>kY l i
def AZI (its:List It) (st₀ st:St) (k:Nat):Bool:=(decide (st₀.n≤k)||(!kept its st₀ k&&kY its k)) && !AC6 (jM its st) k
def AK1 (its:List It) (st₀ st:St):Nat→Option bB:=fun k=>match AZI its st₀ st k with
 | true=>st.σ k
 | false=>none
def AXG (C:fP) (st₀ st:St) (its:List It) (K:G6.den its→Prop):Prop:=AHD C (AK1 its st₀ st) (p8 its) st₀ st its K
def BF (its:List It) (A:Nat→Bool) (st₀:St) (y:G6.den its):St :=
 ⟨fun i=>match A i with
  | true=>AO st₀.n its y 0 i
  | false=>st₀.s i,
  fun k=>match decide (k<st₀.n) with
  | true=>match kept its st₀ k with
   | true=>(st₀.σ k).map lock
   | false=>lP (PC st₀.n its 0) st₀ its y k
  | false=>DX its y (k-st₀.n),
  st₀.n+wQ its⟩
def RD (its:List It) (st₀:St):St:=⟨st₀.s,fun k=>match kept its st₀ k with
 | true=>(st₀.σ k).map lock
 | false=>st₀.σ k,st₀.n⟩
def YT (its:List It) (st₀ st:St):St:=⟨st.s,fun k=>match kept its st₀ k with
 | true=>st₀.σ k
 | false=>st.σ k,st.n⟩
def Wk (a b:List T):Prop:=a.length=b.length∧∀ (i:Nat) (x y:T),a[i]? = some x→b[i]? = some y→∀ (w:World) (own:Nat→Prop) (v:Value),cN w own x v→cN w own y v
theorem Wk.refl (a:List T):Wk a a:=⟨rfl,fun i x y hx hy=>by rw[hx] at hy;cases hy;exact fun _ _ _ h=>h⟩
theorem A1M {w:World} {own:Nat→Prop} {f:Bool} {rows:List (List T)} {v:Value} (h:cN w own (.sl f rows) v):cN w own (.sl false (kH rows)) v:=by
 cases h with
 | cQ _ a cap hf hn=>exact .cQ false a cap (by simp) hn
 | sl _ _ sz b o cap g h1 h2 h3 h4 h45 h5 h6 h7 h8 =>
  have hl:(kH rows).length=rows.length:=by simp[kH]
  rw[←hl]
  refine .sl false (kH rows) sz b o cap g (by omega) (by omega) (by simp) h4 h45 (fun r hr=>?_) h6 (fun i j hi hj=>h7 i j (by omega) hj) (fun i j hi hj=>?_)
  ·simp only[kH,List.mem_map] at hr
   obtain ⟨r',hr',rfl⟩:=hr
   simp_all
  ·have hi':i<rows.length:=by omega
   have hr:(kH rows)[i]=rows[i].map (T.canon 0):=by simp[kH]
   have hj':j<rows[i].length:=by rw[hr] at hj;simpa using hj
   have:(kH rows)[i][j]=T.canon 0 rows[i][j]:=by simp[kH]
   rw[this]
   exact (h8 i j hi' hj').canon 0
theorem sX:∀ {r:Sy} {row:List T} {K:r.den→Prop},exV bR r row K→∃ y,K y∧Wk row (r.enc y)
 | .int k,row,K,h=>by
  simp only[exV] at h
  split at h
  ·split at h
   ·rename_i hk
    have hk:=of_decide_eq_true hk
    subst hk
    exact ⟨_,h,Wk.refl _⟩
   ·exact h.elim
  ·exact h.elim
 | .bool,row,K,h=>by
  simp only[exV] at h
  split at h
  ·exact ⟨_,h,Wk.refl _⟩
  ·exact h.elim
 | .str,row,K,h=>by
  simp only[exV] at h
  split at h
  ·exact ⟨_,h,Wk.refl _⟩
  ·exact h.elim
 | .any,row,K,h=>by
  simp only[exV] at h
  split at h
  ·exact ⟨_,h,Wk.refl _⟩
  ·exact h.elim
 | .pr a b,row,K,h=>by
  simp only[exV] at h
  obtain ⟨x,h1,w1⟩:=sX h
  obtain ⟨y,h2,w2⟩:=sX h1
  refine ⟨(x,y),h2,?_,fun i u v hu hv=>?_⟩
  ·have l1:=w1.1
   have l2:=w2.1
   simp only[List.length_take,Sy.cP,List.length_drop] at l1 l2
   simp only[Sy.enc,List.length_append,Sy.cP]
   omega
  ·have l1:=w1.1
   simp only[Sy.enc] at hv
   by_cases hi:i<a.w
   ·rw[List.getElem?_append_left (by rw[Sy.cP];exact hi)] at hv
    exact w1.2 i u v (by rw[List.getElem?_take];simp[hi,hu]) hv
   ·rw[List.getElem?_append_right (by rw[Sy.cP];omega),Sy.cP] at hv
    exact w2.2 (i-a.w) u v (by rw[List.getElem?_drop];rw[show a.w+(i-a.w)=i by omega];exact hu) hv
 | .li r,row,K,h=>by
  simp only[exV] at h
  have one:∀ (u:T) (l:List r.den),(∀ w own v,cN w own u v→cN w own (.sl false (l.map r.enc)) v)→Wk [u] (Sy.enc (.li r) l):=by
   intro u l hw
   refine ⟨rfl,fun i x y hx hy=>?_⟩
   match i with
   | 0=>simp at hx;simp only[Sy.enc] at hy;simp at hy;subst hx;subst hy;exact hw
   | i+1=>simp at hx
  split at h
  ·obtain ⟨l,h1,h2⟩:=h
   exact ⟨l,h2,one _ _ fun w own v hv=>by rw[←h1];exact A1M hv⟩
  ·refine ⟨[],h,one _ _ fun w own v hv=>?_⟩
   cases hv;exact .cQ false none 0 (by simp) (by simp)
  ·refine ⟨[],h,one _ _ fun w own v hv=>?_⟩
   cases hv with
   | ne _ a cap hf=>exact .cQ false (some a) cap (by simp) (by simp)
  ·exact h.elim
def RI:Loc:=⟨0,0,0,0,0⟩
structure AOV (τ:Nat→Option bB) (st:St) (cx:Cx) (ρ:Nat→Option Loc) (m:Nat) (w:World) (own':Nat→Prop):Prop where
 inv:Inv cx ρ st.σ m w
 sub:∀ b,own' b→bL cx ρ st.σ b
 tau:∀ k x,τ k=some x→st.σ k=some x
 dis:∀ k x l,τ k=some x→ρ k=some l→0<l.L+l.C→¬ own' l.bJ
theorem AOV.iA {τ:Nat→Option bB} {st:St} {cx:Cx} {ρ:Nat→Option Loc} {m:Nat} {w:World} {own':Nat→Prop} (h:AOV τ st cx ρ m w own') {k:Nat} {d:D} {t:T} {v:Value} (hd:Rd w (bL cx ρ st.σ) ρ d v) (hf:Go.Pv.iA τ k d=some t):cN w own' t v :=
 xH h.inv h.sub h.tau h.dis k hd hf
structure AV (n:Nat) (τ:Nat→Option bB) (sr:List (Option Nat)) (st:St) (x y:bB):Prop where
 ok:∀ (cx:Cx) (m:Nat) (w:World) (own':Nat→Prop) (ρ ρ':Nat→Option Loc) (l:Loc),(∀ k,k<n→ρ' k=ρ k)→(∀ j src,sr[j]? = some src→ρ' (n+j)=match src with
  | some k=>ρ k
  | none=>some RI)→AOV τ st cx ρ m w own'→fF w (bL cx ρ st.σ) ρ l x→fF w own' ρ' l y
 wr:gM x=true
def BD2 (n:Nat) (τ:Nat→Option bB) (π:Nat→Nat→Bool) (sr:List (Option Nat)) (st₀ st:St):(it:It)→it.den→Prop
 | .val t ag r,y=>∀ cx m ρ w own' v,AOV τ st cx ρ m w own'→Rd w (bL cx ρ st.σ) ρ (st.s t) v→cN w own' (aF ag r y) v
 | .own t z r,y=>(∃ k rows,st.s t = .own k∧st.σ k=some (.arr false z rows)∧kH rows=List.map r.enc y)∨(y=([]:List r.den)∧∃ tt,st.s t = .p tt∧fK tt=some (true,[]))
 | .box k r,y=>∃ cells ts,st.σ k=some (.rows false [cells])∧(uN π k 0 cells).mapM (iA τ 4)=some ts∧Wk ts (r.enc y)
 | .map k kr ag r,y=>∃ x,st.σ k=some x∧AV n τ sr st x (.map false (List.map (cW kr ag r) y))
 | .kT k,y=>∃ x,st.σ k=some x∧AV n τ sr st x (.kT y.1 y.2)
 | .nJ k m,y=>∃ x,st.σ k=some x∧AV n τ sr st x (.nJ m y.1 y.2.1 y.2.2)
 | .fix k,_=>∃ x,st.σ k=some x∧st₀.σ k=some x∧gM x=true
 | .arr k z r,y=>∃ x,st.σ k=some x∧AV n τ sr st x (.arr false z (List.map r.enc y))
 | .cD k,y=>∃ x,st.σ k=some x∧AV n τ sr st x (.cD y.1 y.2.1 y.2.2.1 y.2.2.2)
 | .drop _,_=>True
 | .HA k o z r,y=>∃ cells c,st.σ k=some (.rows false [cells])∧cells[o]? = some c∧((∃ k' rows,c = .own k'∧st.σ k'=some (.arr false z rows)∧kH rows=List.map r.enc y)∨(y=([]:List r.den)∧∃ tt,c = .p tt∧fK tt=some (true,[])))
def wU (n:Nat) (τ:Nat→Option bB) (π:Nat→Nat→Bool) (sr:List (Option Nat)) (st₀ st:St):(its:List It)→G6.den its→Prop
 | [],_=>True
 | it::l,y=>BD2 n τ π sr st₀ st it y.1∧wU n τ π sr st₀ st l y.2
def ALB (n:Nat) (st₀ st:St) (its:List It) (y:G6.den its):Prop:=wU n (AK1 its st₀ st) (p8 its) (jM its st) st₀ st its y
theorem uO {π:Nat→Nat→Bool} {k:Nat}:∀ {cells:List D} {i:Nat},(uN π k i cells).length=cells.length
 | [],_=>rfl
 | c::l,i=>by simp only[uN,List.length_cons,uO (cells:=l)]
theorem NC {π:Nat→Nat→Bool} {k:Nat}:∀ {cells:List D} {i q:Nat} (h:q<cells.length),π k (i+q)=false→(uN π k i cells)[q]'(by rw[uO];exact h)=cells[q]
 | c::l,i,0,h,hp=>by
  simp only[uN,List.getElem_cons_zero]
  simp_all
 | c::l,i,q+1,h,hp=>by
  simp only[uN,List.getElem_cons_succ]
  exact NC (by simpa using h) (by rw[←hp];congr 1;omega)
structure AV3 (π:Nat→Nat→Bool) (n k:Nat) (sr:List (Option Nat)) (cells:List D) (base row:List D):Prop where
 len:row.length=base.length
 at_:∀ i c,row[i]? = some c→(π k i=false∧base[i]? = some c)∨(π k i=true∧∃ j src,c = .own (n+j)∧sr[j]? = some src∧((∃ k',cells[i]? = some (.own k')∧src=some k')∨(src=none∧∃ tt,cells[i]? = some (.p tt)∧fK tt=some (true,[]))))
theorem AD8 {w:World} {own:Nat→Prop} {tt:T} {v:Value} (h:cN w own tt v) (hr:fK tt=some (true,[])):∃ a,v = .slice a 0 0:=by
 unfold fK at hr
 split at hr
 ·cases hr
  cases h with
  | cQ _ a cap hf hn=>rw[hf rfl];exact ⟨a,rfl⟩
  | sl _ _ sz b o cap g h1 h2 h3 h4 h45 h5 h6 h7 h8=>have:=h3 rfl;simp at this;subst this;exact ⟨_,rfl⟩
 ·cases hr;cases h;exact ⟨none,rfl⟩
 ·cases hr
  cases h with
  | ne _ a cap hf=>exact ⟨some a,by rw[hf rfl]⟩
 ·cases hr
theorem YV {w:World} {own:Nat→Prop} {a b:List T} (h:Wk a b) {v:Value} (hv:cN w own (.agg a) v):cN w own (.agg b) v:=by
 cases hv with
 | agg _ vs h1 h2 =>
  refine .agg b vs (by rw[h1,h.1]) fun i hi=>?_
  have hi':i<a.length:=by rw[h.1];exact hi
  exact h.2 i a[i] b[i] (by simp[hi']) (by simp[hi]) _ _ _ (h2 i hi')
theorem A2Y {w:World} {own:Nat→Prop} {x:T} {b:List T} (h:Wk [x] b) {v:Value} (hv:cN w own x v):cN w own (hdT b) v:=by
 have hl:=h.1
 match b,hl with
 | [y],_=>exact h.2 0 x y rfl rfl _ _ _ hv
theorem AGX {n k:Nat} {τ:Nat→Option bB} {π:Nat→Nat→Bool} {sr:List (Option Nat)} {st:St} {cells:List D} {ts ts':List T} {row:List D} (hm:(uN π k 0 cells).mapM (iA τ 4)=some ts) (h:Wk ts ts') (hw:AV3 π n k sr cells (ts'.map .p) row):AV n τ sr st (.rows false [cells]) (.rows false [row]):=by
 refine ⟨fun cx m w own' ρ ρ' l hρ hs hzz hb=>?_,rfl⟩
 obtain ⟨m1,m2⟩:=mapM_some_length hm
 rw[uO] at m1
 refine ⟨fun h0=>?_,fun h0=>by obtain ⟨_,_,e⟩:=hb.2 h0;cases e⟩
 obtain ⟨o,h1,h2⟩:=hb.1 h0
 refine ⟨o,h1,?_⟩
 have hlen:row.length=cells.length:=by rw[hw.len,List.length_map,←h.1,m1]
 cases h2 with
 | rows _ rs c hr hz h2 =>
  cases hr
  refine .rows _ [row] c rfl (fun _ _ _ e=>by cases e) ⟨h2.size,h2.pos,h2.small,h2.len,h2.VU,fun r hr=>?_,fun i j hi hj=>?_,h2.one⟩
  ·have:=h2.width cells (by simp)
   simp_all
  ·have hi0:i=0:=by simpa using hi
   subst hi0
   simp only[List.getElem_cons_zero] at hj
   have hj2:j<cells.length:=by omega
   have hj':j<ts.length:=by omega
   obtain ⟨v,e1,e2⟩:=h2.cell 0 j (by simp) (by simpa using hj2)
   refine ⟨v,e1,?_⟩
   simp only[List.getElem_cons_zero] at e2 ⊢
   rcases hw.at_ j row[j] (by simp[hj]) with ⟨p1,p2⟩|⟨p1,q,src,p2,p3,p4⟩
   ·have e3:row[j] = .p (ts'[j]'(by rw[←h.1];exact hj')):=by
     have:=List.getElem?_eq_some_iff.1 p2
     obtain ⟨_,g⟩:=this
     simp_all
    rw[e3]
    refine .p _ _ (h.2 j ts[j] _ (by simp[hj']) (by simp[h.1 ▸ hj']) _ _ _ (hzz.iA (k:=4) e2 ?_))
    have:=m2 j (by rw[uO];exact hj2) hj'
    rw[NC hj2 (by rw[Nat.zero_add];exact p1)] at this
    exact this
   ·rw[p2]
    have h3:=hs q src p3
    have hc:cells[j]? = some cells[j]:=by simp[hj2]
    rcases p4 with ⟨k',g1,rfl⟩|⟨rfl,tt,g1,g2⟩
    ·rw[hc] at g1
     rw[Option.some.inj g1] at e2
     cases e2 with
     | own _ lo hl hL h4 h5=>exact .own _ lo (h3.trans hl) hL h4 h5
     | c0 _ lo a hl hL=>exact .c0 _ lo a (h3.trans hl) hL
    ·rw[hc] at g1
     rw[Option.some.inj g1] at e2
     cases e2 with
     | p _ _ e2 =>
      obtain ⟨a,rfl⟩:=AD8 e2 g2
      exact .c0 _ RI a h3 rfl
theorem A4N {w:World} {own:Nat→Prop} {ρ:Nat→Option Loc} {e:Value×D} {v:Value} (h:Rd w own ρ e.2 v):Rd w own ρ (VR e).2 v:=by
 unfold VR
 split
 ·rename_i t ht
  rw[ht] at h
  cases h with
  | p _ _ h=>exact .p _ _ (h.canon 1)
 ·exact h
theorem AWL (e:Value×D):(VR e).1=e.1:=by unfold VR;split<;>rfl
theorem APB {n:Nat} {τ:Nat→Option bB} {sr:List (Option Nat)} {st:St} {es:List (Value×D)} {kr:Sy} {ag:Bool} {r:Sy} {l:List (kr.den×r.den)} (h:es.map VR=l.map (cW kr ag r)):AV n τ sr st (.map false es) (.map false (l.map (cW kr ag r))):=by
 refine ⟨fun cx m w own' ρ ρ' lo hρ _ hz hb=>?_,rfl⟩
 refine ⟨fun h0=>?_,fun h0=>by obtain ⟨_,_,e⟩:=hb.2 h0;cases e⟩
 obtain ⟨o,h1,h2⟩:=hb.1 h0
 refine ⟨o,h1,?_⟩
 cases h2 with
 | rows _ rs c hr hz h2=>simp[eC] at hr
 | map _ _ ents e1 e2 =>
  have hlen:es.length=(l.map (cW kr ag r)).length:=by rw[←h];simp
  rw[hlen]
  refine .map false _ ents (by omega) fun i hi=>?_
  have hi':i<es.length:=by omega
  obtain ⟨e,g1,g2,g3,g4⟩:=e2 i hi'
  have he:(l.map (cW kr ag r))[i]=VR es[i]:=by
   have:(es.map VR)[i]'(by simpa using hi')=(l.map (cW kr ag r))[i]:=by congr 1
   rw[←this];simp
  have hp:∃ t,(l.map (cW kr ag r))[i].2 = .p t:=by simp only[List.getElem_map];exact ⟨_,rfl⟩
  refine ⟨e,g1,?_,g3,?_⟩
  ·rw[he,AWL];exact g2
  ·have g5:=A4N g4
   rw[←he] at g5
   obtain ⟨t,ht⟩:=hp
   rw[ht] at g5 ⊢
   cases g5 with
   | p _ _ g5=>exact .p _ _ (g5.less hz.sub)
theorem NF {w:World} {own own':Nat→Prop} {ρ ρ':Nat→Option Loc} {l:Loc} {ro:Bool} {z:Nat} {rows:List (List T)} (ho:∀ b,own' b→own b) (h:fF w own ρ l (.arr ro z rows)):fF w own' ρ' l (.arr ro z (kH rows)):=by
 refine ⟨fun h0=>?_,fun h0=>?_⟩
 ·obtain ⟨o,h1,h2⟩:=h.1 h0
  refine ⟨o,h1,?_⟩
  cases h2 with
  | rows _ rs c hr hz h2 =>
   cases hr
   have hl:(aU (kH rows)).length=(aU rows).length:=by simp[aU,kH]
   refine .rows _ (aU (kH rows)) c rfl (fun _ _ _ e=>by cases e;exact hz _ _ _ rfl) ⟨h2.size,h2.pos,by have:=h2.small;omega,by have:=h2.len;omega,by have:=h2.VU;omega,fun r hr=>?_,fun i j hi hj=>?_,h2.one⟩
   ·simp only[aU,kH,List.map_map,List.mem_map,Function.comp] at hr
    obtain ⟨r',hr',rfl⟩:=hr
    have:=h2.width (r'.map .p) (by simp only[aU,List.mem_map];exact ⟨r',hr',rfl⟩)
    simp_all
   ·have hi':i<rows.length:=by simpa [aU,kH] using hi
    have e1:(aU (kH rows))[i]=(rows[i].map (T.canon 0)).map .p:=by simp[aU,kH]
    have hj':j<rows[i].length:=by rw[e1] at hj;simpa using hj
    have e3:(aU rows)[i]'(by simpa using hi')=rows[i].map .p:=by simp[aU]
    obtain ⟨v,g1,g2⟩:=h2.cell i j (by simpa using hi') (by rw[e3];simpa using hj')
    refine ⟨v,g1,?_⟩
    have e2:(aU (kH rows))[i][j] = .p (T.canon 0 rows[i][j]):=by simp[aU,kH]
    have e4:((aU rows)[i]'(by simpa using hi'))[j]'(by rw[e3];simpa using hj') = .p rows[i][j]:=by simp[aU]
    rw[e4] at g2
    rw[e2]
    cases g2 with
    | p _ _ g2=>exact .p _ _ ((g2.canon 0).less ho)
 ·obtain ⟨_,_,e⟩:=h.2 h0
  cases e
  exact ⟨_,_,rfl⟩
theorem AXF {n:Nat} {τ:Nat→Option bB} {π:Nat→Nat→Bool} {sr:List (Option Nat)} {st₀ st:St} {it:It} {K:it.den→Prop} (hm:KK n [it]=true) (h:exI bR τ π st₀ st it K):∃ y,K y∧BD2 n τ π sr st₀ st it y:=by
 cases it with
 | val t ag r =>
  simp only[exI] at h
  split at h
  ·rename_i cs hs
   obtain ⟨y,h1,h2⟩:=sX h
   exact ⟨y,h1,fun cx m ρ w own' v hz hv=>YV h2 (hz.iA hv hs)⟩
  ·rename_i vs hs
   obtain ⟨y,h1,h2⟩:=sX h
   refine ⟨y,h1,fun cx m ρ w own' v hz hv=>?_⟩
   have hv:=hz.iA hv hs
   cases hv
   exact YV h2 (.agg _ _ (cZ.vs (R:=cN w own') (g:=T.v) .v _).1 (cZ.vs (R:=cN w own') (g:=T.v) .v _).2)
  ·rename_i x hs
   obtain ⟨y,h1,h2⟩:=sX h
   exact ⟨y,h1,fun cx m ρ w own' v hz hv=>A2Y h2 (hz.iA hv hs)⟩
  ·exact h.elim
 | own t z r =>
  simp only[exI] at h
  split at h
  ·rename_i k hs
   split at h
   ·rename_i ro z' rows hσ
    split at h
    ·rename_i hc
     simp only[Bool.and_eq_true,Bool.not_eq_true',beq_iff_eq] at hc
     obtain ⟨rfl,rfl⟩:=hc
     obtain ⟨l,h1,h2⟩:=h
     exact ⟨l,h2,.inl ⟨k,rows,hs,hσ,h1⟩⟩
    ·exact h.elim
   ·exact h.elim
  ·rename_i tt hs
   split at h
   ·rename_i hr
    exact ⟨[],h,.inr ⟨rfl,tt,hs,hr⟩⟩
   ·exact h.elim
  ·exact h.elim
 | box k r =>
  simp only[exI] at h
  split at h
  ·rename_i ro cells hσ
   split at h
   ·rename_i ts hts
    obtain ⟨y,h1,h2⟩:=sX h
    exact ⟨y,h1,cells,ts,hσ,hts,h2⟩
   ·exact h.elim
  ·exact h.elim
 | map k kr ag r =>
  simp only[exI] at h
  split at h
  ·rename_i ro es hσ
   split at h
   ·obtain ⟨l,h1,h2⟩:=h
    exact ⟨l,h2,_,hσ,APB h1⟩
   ·exact h.elim
  ·exact h.elim
 | kT k =>
  simp only[exI] at h
  split at h
  ·rename_i s pos hσ
   exact ⟨(s,pos),h,_,hσ,fun cx m w own' ρ ρ' l hρ _ hz hb=>hb.cut hρ hz.sub trivial,rfl⟩
  ·exact h.elim
 | nJ k m =>
  simp only[exI] at h
  split at h
  ·rename_i m' since seen last hσ
   split at h
   ·rename_i hm'
    have hm':=of_decide_eq_true hm'
    subst hm'
    refine ⟨(since,seen,last),h,_,hσ,fun cx m w own' ρ ρ' l hρ _ hz hb=>hb.cut hρ hz.sub ?_,rfl⟩
    intro km hkm
    subst hkm
    simpa [KK] using hm
   ·exact h.elim
  ·exact h.elim
 | fix k =>
  simp only[exI] at h
  split at h
  ·rename_i x y hx hy
   split at h
   ·rename_i hw
    obtain ⟨rfl,h⟩:=h
    exact ⟨(),h,_,hx,hy,hw⟩
   ·exact h.elim
  ·exact h.elim
 | arr k z r =>
  simp only[exI] at h
  split at h
  ·rename_i ro z' rows hσ
   split at h
   ·rename_i hc
    simp only[Bool.and_eq_true,Bool.not_eq_true',beq_iff_eq] at hc
    obtain ⟨rfl,rfl⟩:=hc
    obtain ⟨l,h1,h2⟩:=h
    refine ⟨l,h2,_,hσ,fun cx m w own' ρ ρ' lo hρ _ hz hb=>?_,rfl⟩
    rw[←h1]
    exact NF hz.sub hb
   ·exact h.elim
  ·exact h.elim
 | cD k =>
  simp only[exI] at h
  split at h
  ·rename_i es since seen last hσ
   exact ⟨(es,since,seen,last),h,_,hσ,fun cx m w own' ρ ρ' l hρ _ hz hb=>hb.cut hρ hz.sub trivial,rfl⟩
  ·exact h.elim
 | drop k=>exact ⟨(),h,trivial⟩
 | HA k o z r =>
  simp only[exI] at h
  split at h
  ·rename_i cells hσ
   split at h
   ·rename_i k' hc
    split at h
    ·rename_i ro z' rows hσ'
     split at h
     ·rename_i hw
      simp only[Bool.and_eq_true,Bool.not_eq_true',beq_iff_eq] at hw
      obtain ⟨rfl,rfl⟩:=hw
      obtain ⟨l,h1,h2⟩:=h
      exact ⟨l,h2,cells,_,hσ,hc,.inl ⟨k',rows,rfl,hσ',h1⟩⟩
     ·exact h.elim
    ·exact h.elim
   ·rename_i tt hc
    split at h
    ·rename_i hr
     exact ⟨[],h,cells,_,hσ,hc,.inr ⟨rfl,tt,rfl,hr⟩⟩
    ·exact h.elim
   ·exact h.elim
  ·exact h.elim
theorem ARG {n:Nat} {it:It} {l:List It} (h:KK n (it::l)=true):KK n [it]=true∧KK n l=true:=by
 cases it with
 | nJ k m=>cases m<;>simp[KK] at h ⊢ <;> exact h
 | _=>exact ⟨rfl,h⟩
theorem JJ {n:Nat} {τ:Nat→Option bB} {π:Nat→Nat→Bool} {sr:List (Option Nat)} {st₀ st:St}:∀ {its:List It} {K:G6.den its→Prop},KK n its=true→AHD bR τ π st₀ st its K→∃ y,K y∧wU n τ π sr st₀ st its y
 | [],K,_,h=>⟨(),h,trivial⟩
 | it::l,K,hm,h=>by
  obtain ⟨m1,m2⟩:=ARG hm
  obtain ⟨x,h1,h2⟩:=AXF (sr:=sr) m1 h
  obtain ⟨y,h3,h4⟩:=JJ (sr:=sr) m2 h1
  exact ⟨(x,y),h3,h2,h4⟩
theorem NU {n:Nat} {st₀ st:St} {its:List It} {K:G6.den its→Prop} (hm:KK n its=true) (h:AXG bR st₀ st its K):∃ y,K y∧ALB n st₀ st its y:=JJ hm h
end Go.Pv
