/-
  The symbolic executor, part d: where ways come together: a state of which only typed data are known.
-/
import Derived.Test.YtipdohmdckdoeaaGreatDoorVfkc
set_option linter.defProp false
set_option linter.unusedSimpArgs false
namespace Go.Pv
open Go Go.RowKit
inductive QJ (n:Nat):D->Prop
 | p (t:T):QJ n (.p t)
 | agg (cs:List D):(∀ i (h:i<cs.length),QJ n cs[i])->QJ n (.agg cs)
 | bY (cs:List D):(∀ i (h:i<cs.length),QJ n cs[i])->QJ n (.bY cs)
 | ptr (k i j:Nat):k<n->QJ n (.ptr k i j)
 | own (k:Nat):k<n->QJ n (.own k)
 | bs (k o l:Nat):k<n->QJ n (.bs k o l)
 | map (k:Nat):k<n->QJ n (.map k)
 | it (k:Nat):k<n->QJ n (.it k)
 | fn (f:FuncId) (a b:List D):(∀ i (h:i<a.length),QJ n a[i])->(∀ i (h:i<b.length),QJ n b[i])->QJ n (.fn f a b)
 | rY (g:Bool) (d:D):QJ n d->QJ n (.cond g d)
 | A9 (d:D):QJ n (.cond false d)
 | any:QJ n .any
section
variable {w : World} {own own' : Nat -> Prop} {ρ ρ' : Nat -> Option Loc} {n : Nat}
def Rd.blw (hρ:∀ k l,ρ k=some l->k<n) {d:D} {v:Value} (h:Rd w own ρ d v):QJ n d:=by
 induction h with
 | p t x h=>exact .p t
 | agg cs vs hs _ ih=>exact .agg cs ih
 | bY cs vs hs _ ih=>exact .bY cs ih
 | ptr k i j l h=>exact .ptr k i j (hρ _ _ h)
 | own k l h h0 h2 h3=>exact .own k (hρ _ _ h)
 | dZ k l a h h0=>exact .own k (hρ _ _ h)
 | bs k off len l h h2 h3=>exact .bs k off len (hρ _ _ h)
 | map k l h=>exact .map k (hρ _ _ h)
 | it k l h=>exact .it k (hρ _ _ h)
 | fn f fs cs va vb h1 h2 _ _ ih1 ih2=>exact .fn f fs cs ih1 ih2
 | rY d v _ ih=>exact .rY _ d ih
 | A9 d=>exact .A9 d
 | any v=>exact .any
def Rd.cut (hρ:∀ k,k<n->ρ' k=ρ k) (ho:∀ b,own' b->own b) {d:D} {v:Value} (h:Rd w own ρ d v) (hb:QJ n d):Rd w own' ρ' d v:=by
 induction h with
 | p t x h=>exact .p t x (h.less ho)
 | agg cs vs hs _ ih=>cases hb with|agg _ hb=>exact .agg cs vs hs λi hi=>ih i hi (hb i hi)
 | bY cs vs hs _ ih=>cases hb with|bY _ hb=>exact .bY cs vs hs λi hi=>ih i hi (hb i hi)
 | ptr k i j l h=>cases hb with|ptr _ _ _ hk=>exact .ptr k i j l ((hρ k hk).trans h)
 | own k l h h0 h2 h3=>cases hb with|own _ hk=>exact .own k l ((hρ k hk).trans h) h0 h2 h3
 | dZ k l a h h0=>cases hb with|own _ hk=>exact .dZ k l a ((hρ k hk).trans h) h0
 | bs k off len l h h2 h3=>cases hb with|bs _ _ _ hk=>exact .bs k off len l ((hρ k hk).trans h) h2 h3
 | map k l h=>cases hb with|map _ hk=>exact .map k l ((hρ k hk).trans h)
 | it k l h=>cases hb with|it _ hk=>exact .it k l ((hρ k hk).trans h)
 | fn f fs cs va vb h1 h2 _ _ ih1 ih2=>cases hb with|fn _ _ _ hb1 hb2=>exact .fn f fs cs va vb h1 h2 (λi hi=>ih1 i hi (hb1 i hi)) (λi hi=>ih2 i hi (hb2 i hi))
 | rY d v _ ih=>cases hb with|rY _ _ hb=>exact .rY d v (ih hb)
 | A9 d=>exact .A9 d
 | any v=>exact .any v
end
def T3 (n:Nat):bE->Prop
 | .rows _ rs=>∀ i (hi:i<rs.length) j (hj:j<rs[i].length),QJ n rs[i][j]
 | .arr _ _ _=>True
 | .map _ es=>∀ i (h:i<es.length),QJ n es[i].2
 | .lC _ _=>True
 | .nJ m _ _ _=>∀ k,m=some k->k<n
 | .cH _ _ _ _=>True
 | .held=>True
def lock:bE->bE
 | .rows _ rs=>.rows true rs
 | .arr _ z rows=>.arr true z rows
 | .map _ es=>.map true es
 | x=>x
section
variable {w : World} {own own' : Nat -> Prop} {ρ ρ' : Nat -> Option Loc} {n : Nat} {l : Loc} {x y : bE}
def kC.blw (hρ:∀ k l,ρ k=some l->k<n) (h:kC w own ρ l x):T3 n x:=by
 rcases Nat.eq_zero_or_pos (l.L+l.C) with h0|h0
 ·obtain ⟨ro,z,rfl⟩:=h.2 h0;trivial
 ·obtain ⟨o,_,hb⟩:=h.1 h0;cases hb with
  | rows _ rs c hr hz h' =>
   cases x with
   | rows ro rs'=>cases hr;exact λi hi j hj=>let ⟨v,_,hv⟩:=h'.cell i j hi hj;hv.blw hρ
   | arr ro z rows=>trivial
   | _=>simp[eN] at hr
  | map ro es ents h1 h2=>exact λi hi=>let ⟨e,_,_,_,hv⟩:=h2 i hi;hv.blw hρ
  | lC s pos=>trivial
  | nJ m l' since seen last h'=>exact λk hk=>by cases hk;exact hρ _ _ h'
  | sY=>exact λk hk=>by cases hk
  | cH=>trivial
  | held o=>trivial
def BCU {rows:List (List T)} {i j:Nat} (hi:i<(aZ rows).length) (hj:j<(aZ rows)[i].length):∃ t,(aZ rows)[i][j] = .p t:=by
 simp only[aZ,List.getElem_map];exact ⟨_,rfl⟩
def kC.cut (hρ:∀ k,k<n->ρ' k=ρ k) (ho:∀ b,own' b->own b) (h:kC w own ρ l x) (hb:T3 n x):kC w own' ρ' l x:=by
 refine ⟨λh0=>?_,h.2⟩;obtain ⟨o,ho',hx⟩:=h.1 h0;refine ⟨o,ho',?_⟩;cases hx with
 | rows _ rs c hr hz h' =>
  refine .rows x rs c hr hz ⟨h'.size,h'.pos,h'.small,h'.len,h'.YQ,h'.width,λi j hi hj=>?_,h'.one⟩;obtain ⟨v,h1,h2⟩:=h'.cell i j hi hj;refine ⟨v,h1,h2.cut hρ ho ?_⟩;cases x with
  | rows ro rs'=>cases hr;exact hb i hi j hj
  | arr ro z rows=>cases hr;obtain ⟨t,ht⟩:=BCU hi hj;rw[ht];exact .p t
  | _=>simp[eN] at hr
 | map ro es ents h1 h2=>exact .map ro es ents h1 λi hi=>let ⟨e,a,b,c,hv⟩:=h2 i hi;⟨e,a,b,c,hv.cut hρ ho (hb i hi)⟩
 | lC s pos=>exact .lC s pos
 | nJ m l' since seen last h'=>exact .nJ m l' since seen last ((hρ m (hb m rfl)).trans h')
 | sY=>exact .sY
 | cH es b since seen last h'=>exact .cH es b since seen last (h'.less ho)
 | held o=>exact .held o
def kC.WQ (hxy:lock x=lock y) (h:kC w own ρ l x):kC w own ρ l y:=by
 refine ⟨λh0=>?_,λh0=>?_⟩
 ·obtain ⟨o,ho',hx⟩:=h.1 h0;refine ⟨o,ho',?_⟩;cases hx with
  | rows _ rs c hr hz h' =>
   cases x with
   | rows ro rs' =>
    cases y<;>simp only[lock,bE.rows.injEq,reduceCtorEq] at hxy;obtain ⟨_,rfl⟩:=hxy;exact .rows _ rs c hr (λ_ _ _ e=>by cases e) h'
   | arr ro z rows =>
    cases y<;>simp only[lock,bE.arr.injEq,reduceCtorEq] at hxy;obtain ⟨_,rfl,rfl⟩:=hxy;exact .rows _ rs c hr (λ_ _ _ e=>by cases e;exact hz _ _ _ rfl) h'
   | _=>simp[eN] at hr
  | map ro es ents h1 h2 =>
   cases y<;>simp only[lock,bE.map.injEq,reduceCtorEq] at hxy;obtain ⟨_,rfl⟩:=hxy;exact .map _ es ents h1 h2
  | lC s pos=>cases y<;>simp only[lock,reduceCtorEq] at hxy;cases hxy;exact .lC s pos
  | nJ m l' since seen last h'=>cases y<;>simp only[lock,reduceCtorEq] at hxy;cases hxy;exact .nJ m l' since seen last h'
  | sY=>cases y<;>simp only[lock,reduceCtorEq] at hxy;cases hxy;exact .sY
  | cH es b since seen last h'=>cases y<;>simp only[lock,reduceCtorEq] at hxy;cases hxy;exact .cH es b since seen last h'
  | held o=>cases y<;>simp only[lock,reduceCtorEq] at hxy;exact .held o
 ·obtain ⟨ro,z,rfl⟩:=h.2 h0;cases y<;>simp only[lock,bE.arr.injEq,reduceCtorEq] at hxy;obtain ⟨_,rfl,rfl⟩:=hxy;exact ⟨_,_,rfl⟩
def zR (x:bE):lock (lock x)=lock x:=by cases x<;>rfl
def BBJ (h:gQ x=false):gQ (lock x)=false:=by cases x<;>first|rfl|exact h
end
inductive It where
 | val (t:Tmp) (ag:Bool) (r:Sy)
 | own (t:Tmp) (z:Nat) (r:Sy)
 | box (k:Nat) (r:Sy)
 | map (k:Nat) (kr:Sy) (ag:Bool) (r:Sy)
 | lC (k:Nat)
 | nJ (k:Nat) (m:Option Nat)
 | fix (k:Nat)
 | arr (k:Nat) (z:Nat) (r:Sy)
 | cH (k:Nat)
 | drop (k:Nat)
 | JY (k o z:Nat) (r:Sy)
abbrev It.den:It->Type
 | .val _ _ r=>r.den
 | .own _ _ r=>List r.den
 | .box _ r=>r.den
 | .map _ kr _ r=>List (kr.den×r.den)
 | .lC _=>iII×Nat
 | .nJ _ _=>Nat×List Nat×Nat
 | .fix _=>Unit
 | .arr _ _ r=>List r.den
 | .cH _=>List (Value×T)×Nat×List Nat×Nat
 | .drop _=>Unit
 | .JY _ _ _ r=>List r.den
abbrev GN.den:List It->Type
 | []=>Unit
 | a::l=>a.den×GN.den l
def ON (kr:Sy) (x:kr.den):Value:=match hdT (kr.enc x) with
 | .v x=>x
 | _=>undef
def cG (kr:Sy) (ag:Bool) (r:Sy) (e:kr.den×r.den):Value×D:=(ON kr e.1,.p (aF ag r e.2))
def U1 (e:Value×D):Value×D:=match e.2 with
 | .p t=>(e.1,.p (t.canon 1))
 | _=>e
def dK (kr:Sy) (ag:Bool) (r:Sy) (es:List (Value×D)) (K:List (kr.den×r.den)->Prop):Prop:=∃ l,es.map U1=l.map (cG kr ag r)/\K l
def tT (n:Nat) (seen:List Nat) (A:Prop) (B:Nat->Prop):Prop:=(cU n seen=[]->A)/\∀ i,i∈cU n seen->B i
def B7 (kr:Sy) (ag:Bool) (r:Sy) (es:List (Value×D)) (seen:List Nat) (K:kr.den->r.den->Prop):Prop:=∃ i x y,seen.getLast? = some i/\es[i]? = some (cG kr ag r (x,y))/\K x y
def gH (x y:bE) (K:Prop):Prop:=x=y/\K
def b8 (A B:Prop):Prop:=A/\B
structure jG extends Combs where
 BMN:(kr:Sy)->(ag:Bool)->(r:Sy)->List (Value×D)->(List (kr.den×r.den)->Prop)->Prop
 each:Nat->List Nat->Prop->(Nat->Prop)->Prop
 ent:(kr:Sy)->(ag:Bool)->(r:Sy)->List (Value×D)->List Nat->(kr.den->r.den->Prop)->Prop
 same:bE->bE->Prop->Prop
 both:Prop->Prop->Prop
def bX:jG:={ nN with BMN:=dK,each:=tT,ent:=B7,same:=gH,both:=b8 }
section
variable (C : jG)
def exV:(r:Sy)->List T->(r.den->Prop)->Prop
 | .int k,row,K=>match row with
  | [.v (.int k' n)]=>match decide (k'=k) with
   | true=>K n
   | false=>C.bad 301
  | _=>C.bad 302
 | .bool,row,K=>match row with
  | [.v (.bool b)]=>K b
  | _=>C.bad 303
 | .str,row,K=>match row with
  | [.v (.string s)]=>K s
  | _=>C.bad 304
 | .any,row,K=>match row with
  | [x]=>K x
  | _=>C.bad 305
 | .pr a b,row,K=>exV a (row.take a.w) λx=>exV b (row.drop a.w) λy=>K (x,y)
 | .li r,row,K=>match row with
  | [.sl _ rows]=>C.dec r rows K
  | [.v (.slice none 0 0)]=>K []
  | [.ne _]=>K []
  | _=>C.bad 306
def u7 (π:Nat->Nat->Bool) (k:Nat):Nat->List D->List D
 | _,[]=>[]
 | i,c::l=>(match π k i with
  | true=>.p (.sl false [])
  | false=>c)::u7 π k (i+1) l
def BN5 (τ:Nat->Option bE):Nat->List D->Nat
 | i,[]=>31600+i
 | i,c::l=>match jB τ 4 c with
  | some _=>BN5 τ (i+1) l
  | none=>3160000+i*100+(match c with
   | .ptr _ _ _=>10
   | .own k=>match τ k with
    | some (.arr _ _ _)=>21
    | some _=>22
    | none=>20
   | .bs _ _ _=>30
   | .map _=>40
   | .it _=>50
   | .fn _ _ _=>60
   | .cond _ _=>70
   | .any=>80
   | _=>90)
def exI (τ:Nat->Option bE) (π:Nat->Nat->Bool) (st₀ st:St):(it:It)->(it.den->Prop)->Prop
 | .val t ag r,K=>match jB τ 4 (st.s t),ag with
  | some (.agg cs),true=>exV C r cs K
  | some (.v (.agg vs)),true=>exV C r (vs.toList.map .v) K
  | some x,false=>exV C r [x] K
  | _,_=>C.bad 311
 | .own t z r,K=>match st.s t with
  | .own k=>match st.σ k with
   | some (.arr ro z' rows)=>match !ro&&z' == z with
    | true=>C.dec r rows K
    | false=>C.bad 312
   | _=>C.bad 313
  | .p tt=>match fK tt with
   | some (true,[])=>K []
   | _=>C.bad 314
  | _=>C.bad 315
 | .box k r,K=>match st.σ k with
  | some (.rows ro [cells])=>match ro,(u7 π k 0 cells).mapM (jB τ 4) with
   | false,some ts=>exV C r ts K
   | _,_=>C.bad (BN5 τ 0 cells)
  | _=>C.bad 317
 | .map k kr ag r,K=>match st.σ k with
  | some (.map ro es)=>match ro with
   | false=>C.BMN kr ag r es K
   | true=>C.bad 318
  | _=>C.bad 319
 | .lC k,K=>match st.σ k with
  | some (.lC s pos)=>K (s,pos)
  | _=>C.bad 320
 | .nJ k m,K=>match st.σ k with
  | some (.nJ m' since seen last)=>match decide (m'=m) with
   | true=>K (since,seen,last)
   | false=>C.bad 321
  | _=>C.bad 322
 | .fix k,K=>match st.σ k,st₀.σ k with
  | some x,some y=>match gQ x with
   | true=>C.same x y (K ())
   | false=>C.bad 324
  | _,_=>C.bad 325
 | .arr k z r,K=>match st.σ k with
  | some (.arr ro z' rows)=>match !ro&&z' == z with
   | true=>C.dec r rows K
   | false=>C.bad 326
  | _=>C.bad 327
 | .cH k,K=>match st.σ k with
  | some (.cH es since seen last)=>K (es,since,seen,last)
  | _=>C.bad 323
 | .drop _,K=>K ()
 | .JY k o z r,K=>match st.σ k with
  | some (.rows false [cells])=>match cells[o]? with
   | some (.own k')=>match st.σ k' with
    | some (.arr ro z' rows)=>match !ro&&z' == z with
     | true=>C.dec r rows K
     | false=>C.bad 332
    | _=>C.bad 333
   | some (.p tt)=>match fK tt with
    | some (true,[])=>K []
    | _=>C.bad 334
   | _=>C.bad 335
  | _=>C.bad 336
def U9 (τ:Nat->Option bE) (π:Nat->Nat->Bool) (st₀ st:St):(its:List It)->(GN.den its->Prop)->Prop
 | [],K=>K ()
 | it::l,K=>exI C τ π st₀ st it λx=>U9 τ π st₀ st l λy=>K (x,y)
end
def AV (n:Nat):(its:List It)->GN.den its->Nat->Nat->D
 | [],_,_,_=>.any
 | .val t ag r::l,y,j,i=>match i == t with
  | true=>.p (aF ag r y.1)
  | false=>AV n l y.2 j i
 | .own t _ _::l,y,j,i=>match i == t with
  | true=>.own (n+j)
  | false=>AV n l y.2 (j+1) i
 | .box _ _::l,y,j,i=>AV n l y.2 j i
 | .map _ _ _ _::l,y,j,i=>AV n l y.2 j i
 | .lC _::l,y,j,i=>AV n l y.2 j i
 | .nJ _ _::l,y,j,i=>AV n l y.2 j i
 | .fix _::l,y,j,i=>AV n l y.2 j i
 | .arr _ _ _::l,y,j,i=>AV n l y.2 j i
 | .cH _::l,y,j,i=>AV n l y.2 j i
 | .drop _::l,y,j,i=>AV n l y.2 j i
 | .JY _ _ _ _::l,y,j,i=>AV n l y.2 (j+1) i
def lX (f:Nat->List D->List D) (st₀:St):(its:List It)->GN.den its->Nat->Option bE
 | [],_,_=>none
 | .val _ _ _::l,y,i=>lX f st₀ l y.2 i
 | .own _ _ _::l,y,i=>lX f st₀ l y.2 i
 | .box k r::l,y,i=>match i == k with
  | true=>some (.rows false [f k ((r.enc y.1).map .p)])
  | false=>lX f st₀ l y.2 i
 | .map k kr ag r::l,y,i=>match i == k with
  | true=>some (.map false (y.1.map (cG kr ag r)))
  | false=>lX f st₀ l y.2 i
 | .lC k::l,y,i=>match i == k with
  | true=>some (.lC y.1.1 y.1.2)
  | false=>lX f st₀ l y.2 i
 | .nJ k m::l,y,i=>match i == k with
  | true=>some (.nJ m y.1.1 y.1.2.1 y.1.2.2)
  | false=>lX f st₀ l y.2 i
 | .fix k::l,y,i=>match i == k with
  | true=>st₀.σ k
  | false=>lX f st₀ l y.2 i
 | .arr k z r::l,y,i=>match i == k with
  | true=>some (.arr false z (y.1.map r.enc))
  | false=>lX f st₀ l y.2 i
 | .cH k::l,y,i=>match i == k with
  | true=>some (.cH y.1.1 y.1.2.1 y.1.2.2.1 y.1.2.2.2)
  | false=>lX f st₀ l y.2 i
 | .drop k::l,y,i=>match i == k with
  | true=>none
  | false=>lX f st₀ l y.2 i
 | .JY _ _ _ _::l,y,i=>lX f st₀ l y.2 i
def AU:(its:List It)->GN.den its->Nat->Option bE
 | [],_,_=>none
 | .own _ z r::l,y,j=>match j with
  | 0=>some (.arr false z (y.1.map r.enc))
  | j+1=>AU l y.2 j
 | .JY _ _ z r::l,y,j=>match j with
  | 0=>some (.arr false z (y.1.map r.enc))
  | j+1=>AU l y.2 j
 | .val _ _ _::l,y,j=>AU l y.2 j
 | .box _ _::l,y,j=>AU l y.2 j
 | .map _ _ _ _::l,y,j=>AU l y.2 j
 | .lC _::l,y,j=>AU l y.2 j
 | .nJ _ _::l,y,j=>AU l y.2 j
 | .fix _::l,y,j=>AU l y.2 j
 | .arr _ _ _::l,y,j=>AU l y.2 j
 | .cH _::l,y,j=>AU l y.2 j
 | .drop _::l,y,j=>AU l y.2 j
def zA (st:St) (k o:Nat):Option Nat:=match st.σ k with
 | some (.rows false [cells])=>match cells[o]? with
  | some (.own k')=>some k'
  | _=>none
 | _=>none
def qR:List It->Nat->Nat->Bool
 | [],_,_=>false
 | .JY k o _ _::l,k',o'=>(k' == k&&o' == o)||qR l k' o'
 | _::l,k',o'=>qR l k' o'
def O9 (n:Nat):List It->Nat->Nat->List D->List D
 | [],_,_,row=>row
 | .own _ _ _::l,j,k,row=>O9 n l (j+1) k row
 | .JY k' o _ _::l,j,k,row=>match k == k' with
  | true=>(O9 n l (j+1) k row).set o (.own (n+j))
  | false=>O9 n l (j+1) k row
 | _::l,j,k,row=>O9 n l j k row
def jW:List It->St->List (Option Nat)
 | [],_=>[]
 | .own t _ _::l,st=>(match st.s t with
  | .own k=>some k
  | _=>none)::jW l st
 | .val _ _ _::l,st=>jW l st
 | .box _ _::l,st=>jW l st
 | .map _ _ _ _::l,st=>jW l st
 | .lC _::l,st=>jW l st
 | .nJ _ _::l,st=>jW l st
 | .fix _::l,st=>jW l st
 | .arr _ _ _::l,st=>jW l st
 | .cH _::l,st=>jW l st
 | .drop _::l,st=>jW l st
 | .JY k o _ _::l,st=>zA st k o::jW l st
def wO:List It->Nat
 | []=>0
 | .own _ _ _::l=>wO l+1
 | .val _ _ _::l=>wO l
 | .box _ _::l=>wO l
 | .map _ _ _ _::l=>wO l
 | .lC _::l=>wO l
 | .nJ _ _::l=>wO l
 | .fix _::l=>wO l
 | .arr _ _ _::l=>wO l
 | .cH _::l=>wO l
 | .drop _::l=>wO l
 | .JY _ _ _ _::l=>wO l+1
def jX:∀ (its:List It) (st:St),(jW its st).length=wO its
 | [],_=>rfl
 | .own _ _ _::l,st=>by simp only[jW,wO,List.length_cons,jX l st]
 | .val _ _ _::l,st=>jX l st
 | .box _ _::l,st=>jX l st
 | .map _ _ _ _::l,st=>jX l st
 | .lC _::l,st=>jX l st
 | .nJ _ _::l,st=>jX l st
 | .fix _::l,st=>jX l st
 | .arr _ _ _::l,st=>jX l st
 | .cH _::l,st=>jX l st
 | .drop _::l,st=>jX l st
 | .JY _ _ _ _::l,st=>by simp only[jW,wO,List.length_cons,jX l st]
def A8:List It->Nat->Bool
 | [],_=>false
 | .box k _::l,i=>i == k||A8 l i
 | .map k _ _ _::l,i=>i == k||A8 l i
 | .lC k::l,i=>i == k||A8 l i
 | .nJ k _::l,i=>i == k||A8 l i
 | .fix k::l,i=>i == k||A8 l i
 | .arr k _ _::l,i=>i == k||A8 l i
 | .cH k::l,i=>i == k||A8 l i
 | .drop k::l,i=>i == k||A8 l i
 | .JY _ _ _ _::l,i=>A8 l i
 | .val _ _ _::l,i=>A8 l i
 | .own _ _ _::l,i=>A8 l i
def J3 (n:Nat):List It->Bool
 | []=>true
 | .nJ _ (some m)::l=>decide (m<n)&&J3 n l
 | _::l=>J3 n l
def ACX:bE->Bool
 | .lC _ _=>false
 | .nJ _ _ _ _=>false
 | .cH _ _ _ _=>false
 | _=>true
def ACJ:List (Option Nat)->Nat->Bool
 | [],_=>false
 | some k::l,i=>i == k||ACJ l i
 | none::l,i=>ACJ l i
def kept (its:List It) (st₀:St) (k:Nat):Bool:=decide (k<st₀.n)&&match st₀.σ k with
 | some x=>!gQ x||(!A8 its k && !ACJ (jW its st₀) k&&ACX x)
 | none=>false
def apart:List (Option Nat)->Bool
 | []=>true
 | some k::l=>!ACJ l k&&apart l
 | none::l=>apart l
def JN (its:List It) (st₀ st:St):Bool:=apart (jW its st)&&(jW its st).all (λx=>match x with
 | some k=>!kept its st₀ k && !A8 its k
 | none=>true)&&J3 st₀.n its
def lH:List It->Nat->Bool
 | [],_=>false
 | .drop k::l,i=>i == k||lH l i
 | .box k _::l,i=>!(i == k)&&lH l i
 | .map k _ _ _::l,i=>!(i == k)&&lH l i
 | .lC k::l,i=>!(i == k)&&lH l i
 | .nJ k _::l,i=>!(i == k)&&lH l i
 | .fix k::l,i=>!(i == k)&&lH l i
 | .arr k _ _::l,i=>!(i == k)&&lH l i
 | .cH k::l,i=>!(i == k)&&lH l i
 | .val _ _ _::l,i=>lH l i
 | .own _ _ _::l,i=>lH l i
 | .JY _ _ _ _::l,i=>lH l i
def A23 (its:List It) (st₀ st:St) (k:Nat):Bool:=(decide (st₀.n<=k)||(!kept its st₀ k&&lH its k)) && !ACJ (jW its st) k
def AK6 (its:List It) (st₀ st:St):Nat->Option bE:=λk=>match A23 its st₀ st k with
 | true=>st.σ k
 | false=>none
def A0H (C:jG) (st₀ st:St) (its:List It) (K:GN.den its->Prop):Prop:=U9 C (AK6 its st₀ st) (qR its) st₀ st its K
def BE (its:List It) (A:Nat->Bool) (st₀:St) (y:GN.den its):St :=
 ⟨λi=>match A i with
  | true=>AV st₀.n its y 0 i
  | false=>st₀.s i,
  λk=>match decide (k<st₀.n) with
  | true=>match kept its st₀ k with
   | true=>(st₀.σ k).map lock
   | false=>lX (O9 st₀.n its 0) st₀ its y k
  | false=>AU its y (k-st₀.n),
  st₀.n+wO its⟩
def Q3 (its:List It) (st₀:St):St:=⟨st₀.s,λk=>match kept its st₀ k with
 | true=>(st₀.σ k).map lock
 | false=>st₀.σ k,st₀.n⟩
def YK (its:List It) (st₀ st:St):St:=⟨st.s,λk=>match kept its st₀ k with
 | true=>st₀.σ k
 | false=>st.σ k,st.n⟩
def Wk (a b:List T):Prop:=a.length=b.length/\∀ (i:Nat) (x y:T),a[i]? = some x->b[i]? = some y->∀ (w:World) (own:Nat->Prop) (v:Value),cS w own x v->cS w own y v
def Wk.refl (a:List T):Wk a a:=⟨rfl,λi x y hx hy=>by rw[hx] at hy;cases hy;exact λ_ _ _ h=>h⟩
def A5C {w:World} {own:Nat->Prop} {f:Bool} {rows:List (List T)} {v:Value} (h:cS w own (.sl f rows) v):cS w own (.sl false (kO rows)) v:=by
 cases h with
 | cX _ a cap hf hn=>exact .cX false a cap (by simp) hn
 | sl _ _ sz b o cap g h1 h2 h3 h4 h45 h5 h6 h7 h8 =>
  have hl:(kO rows).length=rows.length:=by simp[kO]
  rw[<-hl];refine .sl false (kO rows) sz b o cap g (by omega) (by omega) (by simp) h4 h45 (λr hr=>?_) h6 (λi j hi hj=>h7 i j (by omega) hj) (λi j hi hj=>?_)
  ·simp only[kO,List.mem_map] at hr;obtain ⟨r',hr',rfl⟩:=hr;simpa using h5 r' hr'
  ·have hi':i<rows.length:=by omega
   have hr:(kO rows)[i]=rows[i].map (T.canon 0):=by simp[kO]
   have hj':j<rows[i].length:=by rw[hr] at hj;simpa using hj
   have:(kO rows)[i][j]=T.canon 0 rows[i][j]:=by simp[kO]
   rw[this];exact (h8 i j hi' hj').canon 0
def tV:∀ {r:Sy} {row:List T} {K:r.den->Prop},exV bX r row K->∃ y,K y/\Wk row (r.enc y)
 | .int k,row,K,h=>by
  simp only[exV] at h;split at h
  ·split at h
   ·rename_i hk;have hk:=of_decide_eq_true hk;subst hk;exact ⟨_,h,Wk.refl _⟩
   ·exact h.elim
  ·exact h.elim
 | .bool,row,K,h=>by
  simp only[exV] at h;split at h
  ·exact ⟨_,h,Wk.refl _⟩
  ·exact h.elim
 | .str,row,K,h=>by
  simp only[exV] at h;split at h
  ·exact ⟨_,h,Wk.refl _⟩
  ·exact h.elim
 | .any,row,K,h=>by
  simp only[exV] at h;split at h
  ·exact ⟨_,h,Wk.refl _⟩
  ·exact h.elim
 | .pr a b,row,K,h=>by
  simp only[exV] at h;obtain ⟨x,h1,w1⟩:=tV h;obtain ⟨y,h2,w2⟩:=tV h1;refine ⟨(x,y),h2,?_,λi u v hu hv=>?_⟩
  ·have l1:=w1.1;have l2:=w2.1;simp only[List.length_take,Sy.cP,List.length_drop] at l1 l2;simp only[Sy.enc,List.length_append,Sy.cP];omega
  ·have l1:=w1.1;simp only[List.length_take,Sy.cP] at l1;simp only[Sy.enc] at hv;by_cases hi:i<a.w
   ·rw[List.getElem?_append_left (by rw[Sy.cP];exact hi)] at hv;exact w1.2 i u v (by rw[List.getElem?_take];simp[hi,hu]) hv
   ·rw[List.getElem?_append_right (by rw[Sy.cP];omega),Sy.cP] at hv;exact w2.2 (i-a.w) u v (by rw[List.getElem?_drop];rw[show a.w+(i-a.w)=i by omega];exact hu) hv
 | .li r,row,K,h=>by
  simp only[exV] at h;have one:∀ (u:T) (l:List r.den),(∀ w own v,cS w own u v->cS w own (.sl false (l.map r.enc)) v)->Wk [u] (Sy.enc (.li r) l):=by
   intro u l hw;refine ⟨rfl,λi x y hx hy=>?_⟩
   match i with
   | 0=>simp at hx;simp only[Sy.enc] at hy;simp at hy;subst hx;subst hy;exact hw
   | i+1=>simp at hx
  split at h
  ·rename_i f rows;obtain ⟨l,h1,h2⟩:=h;exact ⟨l,h2,one _ _ λw own v hv=>by rw[<-h1];exact A5C hv⟩
  ·refine ⟨[],h,one _ _ λw own v hv=>?_⟩;cases hv;exact .cX false none 0 (by simp) (by simp)
  ·refine ⟨[],h,one _ _ λw own v hv=>?_⟩;cases hv with
   | ne _ a cap hf=>exact .cX false (some a) cap (by simp) (by simp)
  ·exact h.elim
def RA:Loc:=⟨0,0,0,0,0⟩
structure APG (τ:Nat->Option bE) (st:St) (cx:Cx) (ρ:Nat->Option Loc) (m:Nat) (w:World) (own':Nat->Prop):Prop where
 inv:Inv cx ρ st.σ m w
 sub:∀ b,own' b->Own cx ρ st.σ b
 tau:∀ k x,τ k=some x->st.σ k=some x
 dis:∀ k x l,τ k=some x->ρ k=some l->0<l.L+l.C->¬ own' l.bM
variable {τ:Nat->Option bE}{st:St}{ρ:Nat->Option Loc}{own':Nat->Prop}
def APG.jB {cx:Cx} {m:Nat} {w:World} (h:APG τ st cx ρ m w own') {k:Nat} {d:D} {t:T} {v:Value} (hd:Rd w (Own cx ρ st.σ) ρ d v) (hf:Go.Pv.jB τ k d=some t):cS w own' t v :=
 CH h.inv h.sub h.tau h.dis k hd hf
structure A6 (n:Nat) (τ:Nat->Option bE) (sr:List (Option Nat)) (st:St) (x y:bE):Prop where
 ok:∀ (cx:Cx) (m:Nat) (w:World) (own':Nat->Prop) (ρ ρ':Nat->Option Loc) (l:Loc),(∀ k,k<n->ρ' k=ρ k)->(∀ j src,sr[j]? = some src->ρ' (n+j)=match src with
  | some k=>ρ k
  | none=>some RA)->APG τ st cx ρ m w own'->kC w (Own cx ρ st.σ) ρ l x->kC w own' ρ' l y
 wr:gQ x=true
def BMD (n:Nat) (τ:Nat->Option bE) (π:Nat->Nat->Bool) (sr:List (Option Nat)) (st₀ st:St):(it:It)->it.den->Prop
 | .val t ag r,y=>∀ cx m ρ w own' v,APG τ st cx ρ m w own'->Rd w (Own cx ρ st.σ) ρ (st.s t) v->cS w own' (aF ag r y) v
 | .own t z r,y=>(∃ k rows,st.s t = .own k/\st.σ k=some (.arr false z rows)/\kO rows=List.map r.enc y)\/(y=([]:List r.den)/\∃ tt,st.s t = .p tt/\fK tt=some (true,[]))
 | .box k r,y=>∃ cells ts,st.σ k=some (.rows false [cells])/\(u7 π k 0 cells).mapM (jB τ 4)=some ts/\Wk ts (r.enc y)
 | .map k kr ag r,y=>∃ x,st.σ k=some x/\A6 n τ sr st x (.map false (List.map (cG kr ag r) y))
 | .lC k,y=>∃ x,st.σ k=some x/\A6 n τ sr st x (.lC y.1 y.2)
 | .nJ k m,y=>∃ x,st.σ k=some x/\A6 n τ sr st x (.nJ m y.1 y.2.1 y.2.2)
 | .fix k,_=>∃ x,st.σ k=some x/\st₀.σ k=some x/\gQ x=true
 | .arr k z r,y=>∃ x,st.σ k=some x/\A6 n τ sr st x (.arr false z (List.map r.enc y))
 | .cH k,y=>∃ x,st.σ k=some x/\A6 n τ sr st x (.cH y.1 y.2.1 y.2.2.1 y.2.2.2)
 | .drop _,_=>True
 | .JY k o z r,y=>∃ cells c,st.σ k=some (.rows false [cells])/\cells[o]? = some c/\((∃ k' rows,c = .own k'/\st.σ k'=some (.arr false z rows)/\kO rows=List.map r.enc y)\/(y=([]:List r.den)/\∃ tt,c = .p tt/\fK tt=some (true,[])))
def wT (n:Nat) (τ:Nat->Option bE) (π:Nat->Nat->Bool) (sr:List (Option Nat)) (st₀ st:St):(its:List It)->GN.den its->Prop
 | [],_=>True
 | it::l,y=>BMD n τ π sr st₀ st it y.1/\wT n τ π sr st₀ st l y.2
def ALF (n:Nat) (st₀ st:St) (its:List It) (y:GN.den its):Prop:=wT n (AK6 its st₀ st) (qR its) (jW its st) st₀ st its y
def u9 {π:Nat->Nat->Bool} {k:Nat}:∀ {cells:List D} {i:Nat},(u7 π k i cells).length=cells.length
 | [],_=>rfl
 | c::l,i=>by simp only[u7,List.length_cons,u9 (cells:=l)]
def M5 {π:Nat->Nat->Bool} {k:Nat}:∀ {cells:List D} {i q:Nat} (h:q<cells.length),π k (i+q)=false->(u7 π k i cells)[q]'(by rw[u9];exact h)=cells[q]
 | c::l,i,0,h,hp=>by
  simp only[u7,List.getElem_cons_zero];rw[show π k i=false from hp]
 | c::l,i,q+1,h,hp=>by
  simp only[u7,List.getElem_cons_succ];exact M5 (by simpa using h) (by rw[<-hp];congr 1;omega)
structure AY8 (π:Nat->Nat->Bool) (n k:Nat) (sr:List (Option Nat)) (cells:List D) (base row:List D):Prop where
 len:row.length=base.length
 at_:∀ i c,row[i]? = some c->(π k i=false/\base[i]? = some c)\/(π k i=true/\∃ j src,c = .own (n+j)/\sr[j]? = some src/\((∃ k',cells[i]? = some (.own k')/\src=some k')\/(src=none/\∃ tt,cells[i]? = some (.p tt)/\fK tt=some (true,[]))))
def ADS {w:World} {own:Nat->Prop} {tt:T} {v:Value} (h:cS w own tt v) (hr:fK tt=some (true,[])):∃ a,v = .slice a 0 0:=by
 unfold fK at hr;split at hr
 ·cases hr;cases h with
  | cX _ a cap hf hn=>rw[hf rfl];exact ⟨a,rfl⟩
  | sl _ _ sz b o cap g h1 h2 h3 h4 h45 h5 h6 h7 h8=>have:=h3 rfl;simp at this;subst this;exact ⟨_,rfl⟩
 ·cases hr;cases h;exact ⟨none,rfl⟩
 ·cases hr;cases h with
  | ne _ a cap hf=>exact ⟨some a,by rw[hf rfl]⟩
 ·cases hr
def YL {w:World} {own:Nat->Prop} {a b:List T} (h:Wk a b) {v:Value} (hv:cS w own (.agg a) v):cS w own (.agg b) v:=by
 cases hv with
 | agg _ vs h1 h2 =>
  refine .agg b vs (by rw[h1,h.1]) λi hi=>?_;have hi':i<a.length:=by rw[h.1];exact hi
  exact h.2 i a[i] b[i] (by simp[hi']) (by simp[hi]) _ _ _ (h2 i hi')
def A65 {w:World} {own:Nat->Prop} {x:T} {b:List T} (h:Wk [x] b) {v:Value} (hv:cS w own x v):cS w own (hdT b) v:=by
 have hl:=h.1
 match b,hl with
 | [y],_=>exact h.2 0 x y rfl rfl _ _ _ hv
variable {π:Nat->Nat->Bool}{sr:List (Option Nat)}
def AGZ {n k:Nat} {cells:List D} {ts ts':List T} {row:List D} (hm:(u7 π k 0 cells).mapM (jB τ 4)=some ts) (h:Wk ts ts') (hw:AY8 π n k sr cells (ts'.map .p) row):A6 n τ sr st (.rows false [cells]) (.rows false [row]):=by
 refine ⟨λcx m w own' ρ ρ' l hρ hs hzz hb=>?_,rfl⟩;obtain ⟨m1,m2⟩:=mapM_some_length hm;rw[u9] at m1;refine ⟨λh0=>?_,λh0=>by obtain ⟨_,_,e⟩:=hb.2 h0;cases e⟩;obtain ⟨o,h1,h2⟩:=hb.1 h0;refine ⟨o,h1,?_⟩;have hlen:row.length=cells.length:=by rw[hw.len,ae,<-h.1,m1]
 cases h2 with
 | rows _ rs c hr hz h2 =>
  cases hr;refine .rows _ [row] c rfl (λ_ _ _ e=>by cases e) ⟨h2.size,h2.pos,h2.small,h2.len,h2.YQ,λr hr=>?_,λi j hi hj=>?_,h2.one⟩
  ·have:=h2.width cells (by simp);simp only[List.mem_singleton] at hr;subst hr;rw[hlen];exact this
  ·have hi0:i=0:=by simpa using hi
   subst hi0;simp only[List.getElem_cons_zero] at hj;have hj2:j<cells.length:=by omega
   have hj':j<ts.length:=by omega
   obtain ⟨v,e1,e2⟩:=h2.cell 0 j (by simp) (by simpa using hj2);refine ⟨v,e1,?_⟩;simp only[List.getElem_cons_zero] at e2 ⊢;rcases hw.at_ j row[j] (by simp[hj]) with ⟨p1,p2⟩|⟨p1,q,src,p2,p3,p4⟩
   ·have e3:row[j] = .p (ts'[j]'(by rw[<-h.1];exact hj')):=by
     have:=List.getElem?_eq_some_iff.1 p2;obtain ⟨_,g⟩:=this;rw[<-g,List.getElem_map]
    rw[e3];refine .p _ _ (h.2 j ts[j] _ (by simp[hj']) (by simp[h.1 ▸ hj']) _ _ _ (hzz.jB (k:=4) e2 ?_));have:=m2 j (by rw[u9];exact hj2) hj';rw[M5 hj2 (by rw[Nat.zero_add];exact p1)] at this;exact this
   ·rw[p2];have h3:=hs q src p3;have hc:cells[j]? = some cells[j]:=by simp[hj2]
    rcases p4 with ⟨k',g1,rfl⟩|⟨rfl,tt,g1,g2⟩
    ·rw[hc] at g1;rw[Option.some.inj g1] at e2;simp only at h3;cases e2 with
     | own _ lo hl hL h4 h5=>exact .own _ lo (h3.trans hl) hL h4 h5
     | dZ _ lo a hl hL=>exact .dZ _ lo a (h3.trans hl) hL
    ·rw[hc] at g1;rw[Option.some.inj g1] at e2;cases e2 with
     | p _ _ e2 =>
      obtain ⟨a,rfl⟩:=ADS e2 g2;exact .dZ _ RA a h3 rfl
def A9Y {w:World} {own:Nat->Prop} {e:Value×D} {v:Value} (h:Rd w own ρ e.2 v):Rd w own ρ (U1 e).2 v:=by
 unfold U1;split
 ·rename_i t ht;rw[ht] at h;cases h with
  | p _ _ h=>exact .p _ _ (h.canon 1)
 ·exact h
def AZP (e:Value×D):(U1 e).1=e.1:=by unfold U1;split<;>rfl
def AP1 {n:Nat} {es:List (Value×D)} {kr:Sy} {ag:Bool} {r:Sy} {l:List (kr.den×r.den)} (h:es.map U1=l.map (cG kr ag r)):A6 n τ sr st (.map false es) (.map false (l.map (cG kr ag r))):=by
 refine ⟨λcx m w own' ρ ρ' lo hρ _ hz hb=>?_,rfl⟩;refine ⟨λh0=>?_,λh0=>by obtain ⟨_,_,e⟩:=hb.2 h0;cases e⟩;obtain ⟨o,h1,h2⟩:=hb.1 h0;refine ⟨o,h1,?_⟩;cases h2 with
 | rows _ rs c hr hz h2=>simp[eN] at hr
 | map _ _ ents e1 e2 =>
  have hlen:es.length=(l.map (cG kr ag r)).length:=by rw[<-h];simp
  rw[hlen];refine .map false _ ents (by omega) λi hi=>?_;have hi':i<es.length:=by omega
  obtain ⟨e,g1,g2,g3,g4⟩:=e2 i hi';have he:(l.map (cG kr ag r))[i]=U1 es[i]:=by
   have:(es.map U1)[i]'(by simpa using hi')=(l.map (cG kr ag r))[i]:=by congr 1
   rw[<-this];simp
  have hp:∃ t,(l.map (cG kr ag r))[i].2 = .p t:=by simp only[List.getElem_map];exact ⟨_,rfl⟩
  refine ⟨e,g1,?_,g3,?_⟩
  ·rw[he,AZP];exact g2
  ·have g5:=A9Y g4;rw[<-he] at g5;obtain ⟨t,ht⟩:=hp;rw[ht] at g5 ⊢;cases g5 with
   | p _ _ g5=>exact .p _ _ (g5.less hz.sub)
def M8 {w:World} {own:Nat->Prop} {ρ':Nat->Option Loc} {l:Loc} {ro:Bool} {z:Nat} {rows:List (List T)} (ho:∀ b,own' b->own b) (h:kC w own ρ l (.arr ro z rows)):kC w own' ρ' l (.arr ro z (kO rows)):=by
 refine ⟨λh0=>?_,λh0=>?_⟩
 ·obtain ⟨o,h1,h2⟩:=h.1 h0;refine ⟨o,h1,?_⟩;cases h2 with
  | rows _ rs c hr hz h2 =>
   cases hr;have hl:(aZ (kO rows)).length=(aZ rows).length:=by simp[aZ,kO]
   refine .rows _ (aZ (kO rows)) c rfl (λ_ _ _ e=>by cases e;exact hz _ _ _ rfl) ⟨h2.size,h2.pos,by have:=h2.small;omega,by have:=h2.len;omega,by have:=h2.YQ;omega,λr hr=>?_,λi j hi hj=>?_,h2.one⟩
   ·simp only[aZ,kO,List.map_map,List.mem_map,Function.comp] at hr;obtain ⟨r',hr',rfl⟩:=hr;have:=h2.width (r'.map .p) (by simp only[aZ,List.mem_map];exact ⟨r',hr',rfl⟩);simpa using this
   ·have hi':i<rows.length:=by simpa [aZ,kO] using hi
    have e1:(aZ (kO rows))[i]=(rows[i].map (T.canon 0)).map .p:=by simp[aZ,kO]
    have hj':j<rows[i].length:=by rw[e1] at hj;simpa using hj
    have e3:(aZ rows)[i]'(by simpa using hi')=rows[i].map .p:=by simp[aZ]
    obtain ⟨v,g1,g2⟩:=h2.cell i j (by simpa using hi') (by rw[e3];simpa using hj');refine ⟨v,g1,?_⟩;have e2:(aZ (kO rows))[i][j] = .p (T.canon 0 rows[i][j]):=by simp[aZ,kO]
    have e4:((aZ rows)[i]'(by simpa using hi'))[j]'(by rw[e3];simpa using hj') = .p rows[i][j]:=by simp[aZ]
    rw[e4] at g2;rw[e2];cases g2 with
    | p _ _ g2=>exact .p _ _ ((g2.canon 0).less ho)
 ·obtain ⟨_,_,e⟩:=h.2 h0;cases e;exact ⟨_,_,rfl⟩
variable {st₀:St}
def A0G {n:Nat} {it:It} {K:it.den->Prop} (hm:J3 n [it]=true) (h:exI bX τ π st₀ st it K):∃ y,K y/\BMD n τ π sr st₀ st it y:=by
 cases it with
 | val t ag r =>
  simp only[exI] at h;split at h
  ·rename_i cs hs;obtain ⟨y,h1,h2⟩:=tV h;exact ⟨y,h1,λcx m ρ w own' v hz hv=>YL h2 (hz.jB hv hs)⟩
  ·rename_i vs hs;obtain ⟨y,h1,h2⟩:=tV h;refine ⟨y,h1,λcx m ρ w own' v hz hv=>?_⟩;have hv:=hz.jB hv hs;cases hv;exact YL h2 (.agg _ _ (dJ.vs (R:=cS w own') (g:=T.v) .v _).1 (dJ.vs (R:=cS w own') (g:=T.v) .v _).2)
  ·rename_i x hs;obtain ⟨y,h1,h2⟩:=tV h;exact ⟨y,h1,λcx m ρ w own' v hz hv=>A65 h2 (hz.jB hv hs)⟩
  ·exact h.elim
 | own t z r =>
  simp only[exI] at h;split at h
  ·rename_i k hs;split at h
   ·rename_i ro z' rows hσ;split at h
    ·rename_i hc;simp only[ac,Bool.not_eq_true',beq_iff_eq] at hc;obtain ⟨rfl,rfl⟩:=hc;obtain ⟨l,h1,h2⟩:=h;exact ⟨l,h2,.inl ⟨k,rows,hs,hσ,h1⟩⟩
    ·exact h.elim
   ·exact h.elim
  ·rename_i tt hs;split at h
   ·rename_i hr;exact ⟨[],h,.inr ⟨rfl,tt,hs,hr⟩⟩
   ·exact h.elim
  ·exact h.elim
 | box k r =>
  simp only[exI] at h;split at h
  ·rename_i ro cells hσ;split at h
   ·rename_i ts hts;obtain ⟨y,h1,h2⟩:=tV h;exact ⟨y,h1,cells,ts,hσ,hts,h2⟩
   ·exact h.elim
  ·exact h.elim
 | map k kr ag r =>
  simp only[exI] at h;split at h
  ·rename_i ro es hσ;split at h
   ·obtain ⟨l,h1,h2⟩:=h;exact ⟨l,h2,_,hσ,AP1 h1⟩
   ·exact h.elim
  ·exact h.elim
 | lC k =>
  simp only[exI] at h;split at h
  ·rename_i s pos hσ;exact ⟨(s,pos),h,_,hσ,λcx m w own' ρ ρ' l hρ _ hz hb=>hb.cut hρ hz.sub trivial,rfl⟩
  ·exact h.elim
 | nJ k m =>
  simp only[exI] at h;split at h
  ·rename_i m' since seen last hσ;split at h
   ·rename_i hm';have hm':=of_decide_eq_true hm';subst hm';refine ⟨(since,seen,last),h,_,hσ,λcx m w own' ρ ρ' l hρ _ hz hb=>hb.cut hρ hz.sub ?_,rfl⟩;intro km hkm;subst hkm;simpa [J3] using hm
   ·exact h.elim
  ·exact h.elim
 | fix k =>
  simp only[exI] at h;split at h
  ·rename_i x y hx hy;split at h
   ·rename_i hw;obtain ⟨rfl,h⟩:=h;exact ⟨(),h,_,hx,hy,hw⟩
   ·exact h.elim
  ·exact h.elim
 | arr k z r =>
  simp only[exI] at h;split at h
  ·rename_i ro z' rows hσ;split at h
   ·rename_i hc;simp only[ac,Bool.not_eq_true',beq_iff_eq] at hc;obtain ⟨rfl,rfl⟩:=hc;obtain ⟨l,h1,h2⟩:=h;refine ⟨l,h2,_,hσ,λcx m w own' ρ ρ' lo hρ _ hz hb=>?_,rfl⟩;rw[<-h1];exact M8 hz.sub hb
   ·exact h.elim
  ·exact h.elim
 | cH k =>
  simp only[exI] at h;split at h
  ·rename_i es since seen last hσ;exact ⟨(es,since,seen,last),h,_,hσ,λcx m w own' ρ ρ' l hρ _ hz hb=>hb.cut hρ hz.sub trivial,rfl⟩
  ·exact h.elim
 | drop k=>exact ⟨(),h,trivial⟩
 | JY k o z r =>
  simp only[exI] at h;split at h
  ·rename_i cells hσ;split at h
   ·rename_i k' hc;split at h
    ·rename_i ro z' rows hσ';split at h
     ·rename_i hw;simp only[ac,Bool.not_eq_true',beq_iff_eq] at hw;obtain ⟨rfl,rfl⟩:=hw;obtain ⟨l,h1,h2⟩:=h;exact ⟨l,h2,cells,_,hσ,hc,.inl ⟨k',rows,rfl,hσ',h1⟩⟩
     ·exact h.elim
    ·exact h.elim
   ·rename_i tt hc;split at h
    ·rename_i hr;exact ⟨[],h,cells,_,hσ,hc,.inr ⟨rfl,tt,rfl,hr⟩⟩
    ·exact h.elim
   ·exact h.elim
  ·exact h.elim
def ASI {n:Nat} {it:It} {l:List It} (h:J3 n (it::l)=true):J3 n [it]=true/\J3 n l=true:=by
 cases it with
 | nJ k m=>cases m<;>simp[J3] at h ⊢ <;> exact h
 | _=>exact ⟨rfl,h⟩
def I9 {n:Nat} {τ:Nat->Option bE} {π:Nat->Nat->Bool} {sr:List (Option Nat)} {st₀ st:St}:∀ {its:List It} {K:GN.den its->Prop},J3 n its=true->U9 bX τ π st₀ st its K->∃ y,K y/\wT n τ π sr st₀ st its y
 | [],K,_,h=>⟨(),h,trivial⟩
 | it::l,K,hm,h=>by
  obtain ⟨m1,m2⟩:=ASI hm;simp only[U9] at h;obtain ⟨x,h1,h2⟩:=A0G (sr:=sr) m1 h;obtain ⟨y,h3,h4⟩:=I9 (sr:=sr) m2 h1;exact ⟨(x,y),h3,h2,h4⟩
def NR {n:Nat} {its:List It} {K:GN.den its->Prop} (hm:J3 n its=true) (h:A0H bX st₀ st its K):∃ y,K y/\ALF n st₀ st its y:=I9 hm h
end Go.Pv
