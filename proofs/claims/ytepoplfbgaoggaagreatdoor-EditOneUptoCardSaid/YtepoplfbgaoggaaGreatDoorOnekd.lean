/-
  The symbolic executor, part d: where ways come together: a state of which only typed data are known.
-/
import Derived.Test.YtepoplfbgaoggaaGreatDoorOnekc
set_option linter.defProp false
set_option linter.unusedSimpArgs false
namespace Go.Pv
open Go Go.RowKit
inductive XY (n:Nat):D->Prop
 | p (t:T):XY n (.p t)
 | agg (cs:List D):(∀ i (h:i<cs.length),XY n cs[i])->XY n (.agg cs)
 | cB (cs:List D):(∀ i (h:i<cs.length),XY n cs[i])->XY n (.cB cs)
 | ptr (k i j:Nat):k<n->XY n (.ptr k i j)
 | own (k:Nat):k<n->XY n (.own k)
 | bs (k o l:Nat):k<n->XY n (.bs k o l)
 | map (k:Nat):k<n->XY n (.map k)
 | it (k:Nat):k<n->XY n (.it k)
 | fn (f:FuncId) (a b:List D):(∀ i (h:i<a.length),XY n a[i])->(∀ i (h:i<b.length),XY n b[i])->XY n (.fn f a b)
 | tM (g:Bool) (d:D):XY n d->XY n (.cond g d)
 | EB (d:D):XY n (.cond false d)
 | any:XY n .any
section
variable {w : World} {own own' : Nat -> Prop} {ρ ρ' : Nat -> Option Loc} {n : Nat}
def Rd.blw (hρ:∀ k l,ρ k=some l->k<n) {d:D} {v:Value} (h:Rd w own ρ d v):XY n d:=by
 induction h with
 | p t x h=>exact .p t
 | agg cs vs hs _ ih=>exact .agg cs ih
 | cB cs vs hs _ ih=>exact .cB cs ih
 | ptr k i j l h=>exact .ptr k i j (hρ _ _ h)
 | own k l h h0 h2 h3=>exact .own k (hρ _ _ h)
 | eW k l a h h0=>exact .own k (hρ _ _ h)
 | bs k off len l h h2 h3=>exact .bs k off len (hρ _ _ h)
 | map k l h=>exact .map k (hρ _ _ h)
 | it k l h=>exact .it k (hρ _ _ h)
 | fn f fs cs va vb h1 h2 _ _ ih1 ih2=>exact .fn f fs cs ih1 ih2
 | tM d v _ ih=>exact .tM _ d ih
 | EB d=>exact .EB d
 | any v=>exact .any
def Rd.cut (hρ:∀ k,k<n->ρ' k=ρ k) (ho:∀ b,own' b->own b) {d:D} {v:Value} (h:Rd w own ρ d v) (hb:XY n d):Rd w own' ρ' d v:=by
 induction h with
 | p t x h=>exact .p t x (h.less ho)
 | agg cs vs hs _ ih=>cases hb with|agg _ hb=>exact .agg cs vs hs λi hi=>ih i hi (hb i hi)
 | cB cs vs hs _ ih=>cases hb with|cB _ hb=>exact .cB cs vs hs λi hi=>ih i hi (hb i hi)
 | ptr k i j l h=>cases hb with|ptr _ _ _ hk=>exact .ptr k i j l ((hρ k hk).trans h)
 | own k l h h0 h2 h3=>cases hb with|own _ hk=>exact .own k l ((hρ k hk).trans h) h0 h2 h3
 | eW k l a h h0=>cases hb with|own _ hk=>exact .eW k l a ((hρ k hk).trans h) h0
 | bs k off len l h h2 h3=>cases hb with|bs _ _ _ hk=>exact .bs k off len l ((hρ k hk).trans h) h2 h3
 | map k l h=>cases hb with|map _ hk=>exact .map k l ((hρ k hk).trans h)
 | it k l h=>cases hb with|it _ hk=>exact .it k l ((hρ k hk).trans h)
 | fn f fs cs va vb h1 h2 _ _ ih1 ih2=>cases hb with|fn _ _ _ hb1 hb2=>exact .fn f fs cs va vb h1 h2 (λi hi=>ih1 i hi (hb1 i hi)) (λi hi=>ih2 i hi (hb2 i hi))
 | tM d v _ ih=>cases hb with|tM _ _ hb=>exact .tM d v (ih hb)
 | EB d=>exact .EB d
 | any v=>exact .any v
end
def ABG (n:Nat):bL->Prop
 | .rows _ rs=>∀ i (hi:i<rs.length) j (hj:j<rs[i].length),XY n rs[i][j]
 | .arr _ _ _=>True
 | .map _ es=>∀ i (h:i<es.length),XY n es[i].2
 | .mL _ _=>True
 | .cF _ _ _ _=>True
 | .held=>True
def lock:bL->bL
 | .rows _ rs=>.rows true rs
 | .arr _ z rows=>.arr true z rows
 | .map _ es=>.map true es
 | x=>x
section
variable {w : World} {own own' : Nat -> Prop} {ρ ρ' : Nat -> Option Loc} {n : Nat} {l : Loc} {x y : bL}
def kK.blw (hρ:∀ k l,ρ k=some l->k<n) (h:kK w own ρ l x):ABG n x:=by
 rcases Nat.eq_zero_or_pos (l.L+l.C) with h0|h0
 ·obtain ⟨ro,z,rfl⟩:=h.2 h0;trivial
 ·obtain ⟨o,_,hb⟩:=h.1 h0;cases hb with
  | rows _ rs c hr hz h' =>
   cases x with
   | rows ro rs'=>cases hr;exact λi hi j hj=>let ⟨v,_,hv⟩:=h'.cell i j hi hj;hv.blw hρ
   | arr ro z rows=>trivial
   | _=>simp[fJ] at hr
  | map ro es ents h1 h2=>exact λi hi=>let ⟨e,_,_,_,hv⟩:=h2 i hi;hv.blw hρ
  | mL s pos=>trivial
  | cF=>trivial
  | held o=>trivial
def BJ3 {rows:List (List T)} {i j:Nat} (hi:i<(bK rows).length) (hj:j<(bK rows)[i].length):∃ t,(bK rows)[i][j] = .p t:=by
 simp only[bK,List.getElem_map];exact ⟨_,rfl⟩
def kK.cut (hρ:∀ k,k<n->ρ' k=ρ k) (ho:∀ b,own' b->own b) (h:kK w own ρ l x) (hb:ABG n x):kK w own' ρ' l x:=by
 refine ⟨λh0=>?_,h.2⟩;obtain ⟨o,ho',hx⟩:=h.1 h0;refine ⟨o,ho',?_⟩;cases hx with
 | rows _ rs c hr hz h' =>
  refine .rows x rs c hr hz ⟨h'.size,h'.pos,h'.small,h'.len,h'.uX,h'.width,λi j hi hj=>?_,h'.one⟩;obtain ⟨v,h1,h2⟩:=h'.cell i j hi hj;refine ⟨v,h1,h2.cut hρ ho ?_⟩;cases x with
  | rows ro rs'=>cases hr;exact hb i hi j hj
  | arr ro z rows=>cases hr;obtain ⟨t,ht⟩:=BJ3 hi hj;rw[ht];exact .p t
  | _=>simp[fJ] at hr
 | map ro es ents h1 h2=>exact .map ro es ents h1 λi hi=>let ⟨e,a,b,c,hv⟩:=h2 i hi;⟨e,a,b,c,hv.cut hρ ho (hb i hi)⟩
 | mL s pos=>exact .mL s pos
 | cF es b since seen last h'=>exact .cF es b since seen last (h'.less ho)
 | held o=>exact .held o
def kK.AEX (hxy:lock x=lock y) (h:kK w own ρ l x):kK w own ρ l y:=by
 refine ⟨λh0=>?_,λh0=>?_⟩
 ·obtain ⟨o,ho',hx⟩:=h.1 h0;refine ⟨o,ho',?_⟩;cases hx with
  | rows _ rs c hr hz h' =>
   cases x with
   | rows ro rs' =>
    cases y<;>simp only[lock,bL.rows.injEq,reduceCtorEq] at hxy;obtain ⟨_,rfl⟩:=hxy;exact .rows _ rs c hr (λ_ _ _ e=>by cases e) h'
   | arr ro z rows =>
    cases y<;>simp only[lock,bL.arr.injEq,reduceCtorEq] at hxy;obtain ⟨_,rfl,rfl⟩:=hxy;exact .rows _ rs c hr (λ_ _ _ e=>by cases e;exact hz _ _ _ rfl) h'
   | _=>simp[fJ] at hr
  | map ro es ents h1 h2 =>
   cases y<;>simp only[lock,bL.map.injEq,reduceCtorEq] at hxy;obtain ⟨_,rfl⟩:=hxy;exact .map _ es ents h1 h2
  | mL s pos=>cases y<;>simp only[lock,reduceCtorEq] at hxy;cases hxy;exact .mL s pos
  | cF es b since seen last h'=>cases y<;>simp only[lock,reduceCtorEq] at hxy;cases hxy;exact .cF es b since seen last h'
  | held o=>cases y<;>simp only[lock,reduceCtorEq] at hxy;exact .held o
 ·obtain ⟨ro,z,rfl⟩:=h.2 h0;cases y<;>simp only[lock,bL.arr.injEq,reduceCtorEq] at hxy;simp_all
def C2 (x:bL):lock (lock x)=lock x:=by cases x<;>rfl
def BIQ (h:iN x=false):iN (lock x)=false:=by cases x<;>first|rfl|exact h
end
inductive It where
 | val (t:Tmp) (ag:Bool) (r:Sy)
 | own (t:Tmp) (z:Nat) (r:Sy)
 | box (k:Nat) (r:Sy)
 | map (k:Nat) (kr:Sy) (ag:Bool) (r:Sy)
 | mL (k:Nat)
 | fix (k:Nat)
 | arr (k:Nat) (z:Nat) (r:Sy)
 | cF (k:Nat)
 | xJ (k o z:Nat) (r:Sy)
abbrev It.den:It->Type
 | .val _ _ r=>r.den
 | .own _ _ r=>List r.den
 | .box _ r=>r.den
 | .map _ kr _ r=>List (kr.den×r.den)
 | .mL _=>iII×Nat
 | .fix _=>Unit
 | .arr _ _ r=>List r.den
 | .cF _=>List (Value×T)×Nat×List Nat×Nat
 | .xJ _ _ _ r=>List r.den
abbrev OG.den:List It->Type
 | []=>Unit
 | a::l=>a.den×OG.den l
def AED (kr:Sy) (x:kr.den):Value:=match hdT (kr.enc x) with
 | .v x=>x
 | _=>undef
def dC (kr:Sy) (ag:Bool) (r:Sy) (e:kr.den×r.den):Value×D:=(AED kr e.1,.p (aH ag r e.2))
def ACW (e:Value×D):Value×D:=match e.2 with
 | .p t=>(e.1,.p (t.canon 1))
 | _=>e
def fA (kr:Sy) (ag:Bool) (r:Sy) (es:List (Value×D)) (K:List (kr.den×r.den)->Prop):Prop:=∃ l,es.map ACW=l.map (dC kr ag r)/\K l
def AI (n:Nat) (seen:List Nat) (A:Prop) (B:Nat->Prop):Prop:=(eC n seen=[]->A)/\∀ i,i∈eC n seen->B i
def PR (kr:Sy) (ag:Bool) (r:Sy) (es:List (Value×D)) (seen:List Nat) (K:kr.den->r.den->Prop):Prop:=∃ i x y,seen.getLast? = some i/\es[i]? = some (dC kr ag r (x,y))/\K x y
def eZ (x y:bL) (K:Prop):Prop:=x=y/\K
def BRR (A B:Prop):Prop:=A/\B
structure mM extends Combs where
 BRW:(kr:Sy)->(ag:Bool)->(r:Sy)->List (Value×D)->(List (kr.den×r.den)->Prop)->Prop
 each:Nat->List Nat->Prop->(Nat->Prop)->Prop
 ent:(kr:Sy)->(ag:Bool)->(r:Sy)->List (Value×D)->List Nat->(kr.den->r.den->Prop)->Prop
 same:bL->bL->Prop->Prop
 both:Prop->Prop->Prop
def cA:mM:={ tE with BRW:=fA,each:=AI,ent:=PR,same:=eZ,both:=BRR }
section
variable (C : mM)
def exV:(r:Sy)->List T->(r.den->Prop)->Prop
 | .int k,row,K=>match row with
  | [.v (.int k' n)]=>match decide (k'=k) with
   | true=>K n
   | false=>C.bad 301
  | _=>C.bad 302
 | .bool,row,K=>match row with
  | [.v (.bool b)]=>K b
  | _=>C.bad 303
 | .str,row,K=>match row with
  | [.v (.string s)]=>K s
  | _=>C.bad 304
 | .any,row,K=>match row with
  | [x]=>K x
  | _=>C.bad 305
 | .pr a b,row,K=>exV a (row.take a.w) λx=>exV b (row.drop a.w) λy=>K (x,y)
 | .li r,row,K=>match row with
  | [.sl _ rows]=>C.dec r rows K
  | [.v (.slice none 0 0)]=>K []
  | [.ne _]=>K []
  | _=>C.bad 306
def xH (π:Nat->Nat->Bool) (k:Nat):Nat->List D->List D
 | _,[]=>[]
 | i,c::l=>(match π k i with
  | true=>.p (.sl false [])
  | false=>c)::xH π k (i+1) l
def BS1 (τ:Nat->Option bL):Nat->List D->Nat
 | i,[]=>31600+i
 | i,c::l=>match j1 τ 4 c with
  | some _=>BS1 τ (i+1) l
  | none=>3160000+i*100+(match c with
   | .ptr _ _ _=>10
   | .own k=>match τ k with
    | some (.arr _ _ _)=>21
    | some _=>22
    | none=>20
   | .bs _ _ _=>30
   | .map _=>40
   | .it _=>50
   | .fn _ _ _=>60
   | .cond _ _=>70
   | .any=>80
   | _=>90)
def exI (τ:Nat->Option bL) (π:Nat->Nat->Bool) (st₀ st:St):(it:It)->(it.den->Prop)->Prop
 | .val t ag r,K=>match j1 τ 4 (st.s t),ag with
  | some (.agg cs),true=>exV C r cs K
  | some (.v (.agg vs)),true=>exV C r (vs.toList.map .v) K
  | some x,false=>exV C r [x] K
  | _,_=>C.bad 311
 | .own t z r,K=>match st.s t with
  | .own k=>match st.σ k with
   | some (.arr ro z' rows)=>match !ro&&z' == z with
    | true=>C.dec r rows K
    | false=>C.bad 312
   | _=>C.bad 313
  | .p tt=>match gP tt with
   | some (true,[])=>K []
   | _=>C.bad 314
  | _=>C.bad 315
 | .box k r,K=>match st.σ k with
  | some (.rows ro [cells])=>match ro,(xH π k 0 cells).mapM (j1 τ 4) with
   | false,some ts=>exV C r ts K
   | _,_=>C.bad (BS1 τ 0 cells)
  | _=>C.bad 317
 | .map k kr ag r,K=>match st.σ k with
  | some (.map ro es)=>match ro with
   | false=>C.BRW kr ag r es K
   | true=>C.bad 318
  | _=>C.bad 319
 | .mL k,K=>match st.σ k with
  | some (.mL s pos)=>K (s,pos)
  | _=>C.bad 320
 | .fix k,K=>match st.σ k,st₀.σ k with
  | some x,some y=>match iN x with
   | true=>C.same x y (K ())
   | false=>C.bad 324
  | _,_=>C.bad 325
 | .arr k z r,K=>match st.σ k with
  | some (.arr ro z' rows)=>match !ro&&z' == z with
   | true=>C.dec r rows K
   | false=>C.bad 326
  | _=>C.bad 327
 | .cF k,K=>match st.σ k with
  | some (.cF es since seen last)=>K (es,since,seen,last)
  | _=>C.bad 323
 | .xJ k o z r,K=>match st.σ k with
  | some (.rows false [cells])=>match cells[o]? with
   | some (.own k')=>match st.σ k' with
    | some (.arr ro z' rows)=>match !ro&&z' == z with
     | true=>C.dec r rows K
     | false=>C.bad 332
    | _=>C.bad 333
   | some (.p tt)=>match gP tt with
    | some (true,[])=>K []
    | _=>C.bad 334
   | _=>C.bad 335
  | _=>C.bad 336
def APY (τ:Nat->Option bL) (π:Nat->Nat->Bool) (st₀ st:St):(its:List It)->(OG.den its->Prop)->Prop
 | [],K=>K ()
 | it::l,K=>exI C τ π st₀ st it λx=>APY τ π st₀ st l λy=>K (x,y)
end
def GV (n:Nat):(its:List It)->OG.den its->Nat->Nat->D
 | [],_,_,_=>.any
 | .val t ag r::l,y,j,i=>match i == t with
  | true=>.p (aH ag r y.1)
  | false=>GV n l y.2 j i
 | .own t _ _::l,y,j,i=>match i == t with
  | true=>.own (n+j)
  | false=>GV n l y.2 (j+1) i
 | .box _ _::l,y,j,i=>GV n l y.2 j i
 | .map _ _ _ _::l,y,j,i=>GV n l y.2 j i
 | .mL _::l,y,j,i=>GV n l y.2 j i
 | .fix _::l,y,j,i=>GV n l y.2 j i
 | .arr _ _ _::l,y,j,i=>GV n l y.2 j i
 | .cF _::l,y,j,i=>GV n l y.2 j i
 | .xJ _ _ _ _::l,y,j,i=>GV n l y.2 (j+1) i
def zO (f:Nat->List D->List D) (st₀:St):(its:List It)->OG.den its->Nat->Option bL
 | [],_,_=>none
 | .val _ _ _::l,y,i=>zO f st₀ l y.2 i
 | .own _ _ _::l,y,i=>zO f st₀ l y.2 i
 | .box k r::l,y,i=>match i == k with
  | true=>some (.rows false [f k ((r.enc y.1).map .p)])
  | false=>zO f st₀ l y.2 i
 | .map k kr ag r::l,y,i=>match i == k with
  | true=>some (.map false (y.1.map (dC kr ag r)))
  | false=>zO f st₀ l y.2 i
 | .mL k::l,y,i=>match i == k with
  | true=>some (.mL y.1.1 y.1.2)
  | false=>zO f st₀ l y.2 i
 | .fix k::l,y,i=>match i == k with
  | true=>st₀.σ k
  | false=>zO f st₀ l y.2 i
 | .arr k z r::l,y,i=>match i == k with
  | true=>some (.arr false z (y.1.map r.enc))
  | false=>zO f st₀ l y.2 i
 | .cF k::l,y,i=>match i == k with
  | true=>some (.cF y.1.1 y.1.2.1 y.1.2.2.1 y.1.2.2.2)
  | false=>zO f st₀ l y.2 i
 | .xJ _ _ _ _::l,y,i=>zO f st₀ l y.2 i
def PL:(its:List It)->OG.den its->Nat->Option bL
 | [],_,_=>none
 | .own _ z r::l,y,j=>match j with
  | 0=>some (.arr false z (y.1.map r.enc))
  | j+1=>PL l y.2 j
 | .xJ _ _ z r::l,y,j=>match j with
  | 0=>some (.arr false z (y.1.map r.enc))
  | j+1=>PL l y.2 j
 | .val _ _ _::l,y,j=>PL l y.2 j
 | .box _ _::l,y,j=>PL l y.2 j
 | .map _ _ _ _::l,y,j=>PL l y.2 j
 | .mL _::l,y,j=>PL l y.2 j
 | .fix _::l,y,j=>PL l y.2 j
 | .arr _ _ _::l,y,j=>PL l y.2 j
 | .cF _::l,y,j=>PL l y.2 j
def CP (st:St) (k o:Nat):Option Nat:=match st.σ k with
 | some (.rows false [cells])=>match cells[o]? with
  | some (.own k')=>some k'
  | _=>none
 | _=>none
def rX:List It->Nat->Nat->Bool
 | [],_,_=>false
 | .xJ k o _ _::l,k',o'=>(k' == k&&o' == o)||rX l k' o'
 | _::l,k',o'=>rX l k' o'
def VV (n:Nat):List It->Nat->Nat->List D->List D
 | [],_,_,row=>row
 | .own _ _ _::l,j,k,row=>VV n l (j+1) k row
 | .xJ k' o _ _::l,j,k,row=>match k == k' with
  | true=>(VV n l (j+1) k row).set o (.own (n+j))
  | false=>VV n l (j+1) k row
 | _::l,j,k,row=>VV n l j k row
def kJ:List It->St->List (Option Nat)
 | [],_=>[]
 | .own t _ _::l,st=>(match st.s t with
  | .own k=>some k
  | _=>none)::kJ l st
 | .val _ _ _::l,st=>kJ l st
 | .box _ _::l,st=>kJ l st
 | .map _ _ _ _::l,st=>kJ l st
 | .mL _::l,st=>kJ l st
 | .fix _::l,st=>kJ l st
 | .arr _ _ _::l,st=>kJ l st
 | .cF _::l,st=>kJ l st
 | .xJ k o _ _::l,st=>CP st k o::kJ l st
def D2:List It->Nat
 | []=>0
 | .own _ _ _::l=>D2 l+1
 | .val _ _ _::l=>D2 l
 | .box _ _::l=>D2 l
 | .map _ _ _ _::l=>D2 l
 | .mL _::l=>D2 l
 | .fix _::l=>D2 l
 | .arr _ _ _::l=>D2 l
 | .cF _::l=>D2 l
 | .xJ _ _ _ _::l=>D2 l+1
def mE:∀ (its:List It) (st:St),(kJ its st).length=D2 its
 | [],_=>rfl
 | .own _ _ _::l,st=>by simp only[kJ,D2,List.length_cons,mE l st]
 | .val _ _ _::l,st=>mE l st
 | .box _ _::l,st=>mE l st
 | .map _ _ _ _::l,st=>mE l st
 | .mL _::l,st=>mE l st
 | .fix _::l,st=>mE l st
 | .arr _ _ _::l,st=>mE l st
 | .cF _::l,st=>mE l st
 | .xJ _ _ _ _::l,st=>by simp only[kJ,D2,List.length_cons,mE l st]
def LG:List It->Nat->Bool
 | [],_=>false
 | .box k _::l,i=>i == k||LG l i
 | .map k _ _ _::l,i=>i == k||LG l i
 | .mL k::l,i=>i == k||LG l i
 | .fix k::l,i=>i == k||LG l i
 | .arr k _ _::l,i=>i == k||LG l i
 | .cF k::l,i=>i == k||LG l i
 | .xJ _ _ _ _::l,i=>LG l i
 | .val _ _ _::l,i=>LG l i
 | .own _ _ _::l,i=>LG l i
def ALF:bL->Bool
 | .mL _ _=>false
 | .cF _ _ _ _=>false
 | _=>true
def AK7:List (Option Nat)->Nat->Bool
 | [],_=>false
 | some k::l,i=>i == k||AK7 l i
 | none::l,i=>AK7 l i
def kept (its:List It) (st₀:St) (k:Nat):Bool:=decide (k<st₀.n)&&match st₀.σ k with
 | some x=>!iN x||(!LG its k && !AK7 (kJ its st₀) k&&ALF x)
 | none=>false
def apart:List (Option Nat)->Bool
 | []=>true
 | some k::l=>!AK7 l k&&apart l
 | none::l=>apart l
def AAA (its:List It) (st₀ st:St):Bool:=apart (kJ its st)&&(kJ its st).all (λx=>match x with
 | some k=>!kept its st₀ k && !LG its k
 | none=>true)
def BA1 (its:List It) (st₀ st:St) (k:Nat):Bool:=decide (st₀.n<=k) && !AK7 (kJ its st) k
def AUA (its:List It) (st₀ st:St):Nat->Option bL:=λk=>match BA1 its st₀ st k with
 | true=>st.σ k
 | false=>none
def A8O (C:mM) (st₀ st:St) (its:List It) (K:OG.den its->Prop):Prop:=APY C (AUA its st₀ st) (rX its) st₀ st its K
def GF (its:List It) (A:Nat->Bool) (st₀:St) (y:OG.den its):St :=
 ⟨λi=>match A i with
  | true=>GV st₀.n its y 0 i
  | false=>st₀.s i,
  λk=>match decide (k<st₀.n) with
  | true=>match kept its st₀ k with
   | true=>(st₀.σ k).map lock
   | false=>zO (VV st₀.n its 0) st₀ its y k
  | false=>PL its y (k-st₀.n),
  st₀.n+D2 its⟩
def YP (its:List It) (st₀:St):St:=⟨st₀.s,λk=>match kept its st₀ k with
 | true=>(st₀.σ k).map lock
 | false=>st₀.σ k,st₀.n⟩
def unS (its:List It) (st₀ st:St):St:=⟨st.s,λk=>match kept its st₀ k with
 | true=>st₀.σ k
 | false=>st.σ k,st.n⟩
def Wk (a b:List T):Prop:=a.length=b.length/\∀ (i:Nat) (x y:T),a[i]? = some x->b[i]? = some y->∀ (w:World) (own:Nat->Prop) (v:Value),cS w own x v->cS w own y v
def Wk.refl (a:List T):Wk a a:=⟨rfl,λi x y hx hy=>by rw[hx] at hy;cases hy;exact λ_ _ _ h=>h⟩
def BDP {w:World} {own:Nat->Prop} {f:Bool} {rows:List (List T)} {v:Value} (h:cS w own (.sl f rows) v):cS w own (.sl false (lZ rows)) v:=by
 cases h with
 | dF _ a cap hf hn=>exact .dF false a cap (by simp) hn
 | sl _ _ sz b o cap g h1 h2 h3 h4 h45 h5 h6 h7 h8 =>
  have hl:(lZ rows).length=rows.length:=by simp[lZ]
  rw[<-hl];refine .sl false (lZ rows) sz b o cap g (by omega) (by omega) (by simp) h4 h45 (λr hr=>?_) h6 (λi j hi hj=>h7 i j (by omega) hj) (λi j hi hj=>?_)
  ·simp only[lZ,List.mem_map] at hr;obtain ⟨r',hr',rfl⟩:=hr;simp_all
  ·have hi':i<rows.length:=by omega
   have hr:(lZ rows)[i]=rows[i].map (T.canon 0):=by simp[lZ]
   have hj':j<rows[i].length:=by rw[hr] at hj;simpa using hj
   have:(lZ rows)[i][j]=T.canon 0 rows[i][j]:=by simp[lZ]
   rw[this];exact (h8 i j hi' hj').canon 0
def vE:∀ {r:Sy} {row:List T} {K:r.den->Prop},exV cA r row K->∃ y,K y/\Wk row (r.enc y)
 | .int k,row,K,h=>by
  simp only[exV] at h;split at h
  ·split at h
   ·rename_i hk;have hk:=of_decide_eq_true hk;subst hk;exact ⟨_,h,Wk.refl _⟩
   ·exact h.elim
  ·exact h.elim
 | .bool,row,K,h=>by
  simp only[exV] at h;split at h
  ·exact ⟨_,h,Wk.refl _⟩
  ·exact h.elim
 | .str,row,K,h=>by
  simp only[exV] at h;split at h
  ·exact ⟨_,h,Wk.refl _⟩
  ·exact h.elim
 | .any,row,K,h=>by
  simp only[exV] at h;split at h
  ·exact ⟨_,h,Wk.refl _⟩
  ·exact h.elim
 | .pr a b,row,K,h=>by
  simp only[exV] at h;obtain ⟨x,h1,w1⟩:=vE h;obtain ⟨y,h2,w2⟩:=vE h1;refine ⟨(x,y),h2,?_,λi u v hu hv=>?_⟩
  ·have l1:=w1.1;have l2:=w2.1;simp only[List.length_take,Sy.dV,List.length_drop] at l1 l2;simp only[Sy.enc,List.length_append,Sy.dV];omega
  ·have l1:=w1.1;simp only[Sy.enc] at hv;by_cases hi:i<a.w
   ·rw[List.getElem?_append_left (by rw[Sy.dV];exact hi)] at hv;exact w1.2 i u v (by rw[List.getElem?_take];simp[hi,hu]) hv
   ·rw[List.getElem?_append_right (by rw[Sy.dV];omega),Sy.dV] at hv;exact w2.2 (i-a.w) u v (by rw[List.getElem?_drop];rw[show a.w+(i-a.w)=i by omega];exact hu) hv
 | .li r,row,K,h=>by
  simp only[exV] at h;have one:∀ (u:T) (l:List r.den),(∀ w own v,cS w own u v->cS w own (.sl false (l.map r.enc)) v)->Wk [u] (Sy.enc (.li r) l):=by
   intro u l hw;refine ⟨rfl,λi x y hx hy=>?_⟩
   match i with
   | 0=>simp at hx;simp only[Sy.enc] at hy;simp at hy;subst hx;subst hy;exact hw
   | i+1=>simp at hx
  split at h
  ·obtain ⟨l,h1,h2⟩:=h;exact ⟨l,h2,one _ _ λw own v hv=>by rw[<-h1];exact BDP hv⟩
  ·refine ⟨[],h,one _ _ λw own v hv=>?_⟩;cases hv;exact .dF false none 0 (by simp) (by simp)
  ·refine ⟨[],h,one _ _ λw own v hv=>?_⟩;cases hv with
   | ne _ a cap hf=>exact .dF false (some a) cap (by simp) (by simp)
  ·exact h.elim
def YU:Loc:=⟨0,0,0,0,0⟩
structure AYR (τ:Nat->Option bL) (st:St) (cx:Cx) (ρ:Nat->Option Loc) (m:Nat) (w:World) (own':Nat->Prop):Prop where
 inv:Inv cx ρ st.σ m w
 sub:∀ b,own' b->bY cx ρ st.σ b
 tau:∀ k x,τ k=some x->st.σ k=some x
 dis:∀ k x l,τ k=some x->ρ k=some l->0<l.L+l.C->¬ own' l.bV
variable {τ:Nat->Option bL}{st:St}{ρ:Nat->Option Loc}{own':Nat->Prop}
def AYR.j1 {cx:Cx} {m:Nat} {w:World} (h:AYR τ st cx ρ m w own') {k:Nat} {d:D} {t:T} {v:Value} (hd:Rd w (bY cx ρ st.σ) ρ d v) (hf:Go.Pv.j1 τ k d=some t):cS w own' t v :=
 UE h.inv h.sub h.tau h.dis k hd hf
structure GH (n:Nat) (τ:Nat->Option bL) (sr:List (Option Nat)) (st:St) (x y:bL):Prop where
 ok:∀ (cx:Cx) (m:Nat) (w:World) (own':Nat->Prop) (ρ ρ':Nat->Option Loc) (l:Loc),(∀ k,k<n->ρ' k=ρ k)->(∀ j src,sr[j]? = some src->ρ' (n+j)=match src with
  | some k=>ρ k
  | none=>some YU)->AYR τ st cx ρ m w own'->kK w (bY cx ρ st.σ) ρ l x->kK w own' ρ' l y
 wr:iN x=true
def BRI (n:Nat) (τ:Nat->Option bL) (π:Nat->Nat->Bool) (sr:List (Option Nat)) (st₀ st:St):(it:It)->it.den->Prop
 | .val t ag r,y=>∀ cx m ρ w own' v,AYR τ st cx ρ m w own'->Rd w (bY cx ρ st.σ) ρ (st.s t) v->cS w own' (aH ag r y) v
 | .own t z r,y=>(∃ k rows,st.s t = .own k/\st.σ k=some (.arr false z rows)/\lZ rows=List.map r.enc y)\/(y=([]:List r.den)/\∃ tt,st.s t = .p tt/\gP tt=some (true,[]))
 | .box k r,y=>∃ cells ts,st.σ k=some (.rows false [cells])/\(xH π k 0 cells).mapM (j1 τ 4)=some ts/\Wk ts (r.enc y)
 | .map k kr ag r,y=>∃ x,st.σ k=some x/\GH n τ sr st x (.map false (List.map (dC kr ag r) y))
 | .mL k,y=>∃ x,st.σ k=some x/\GH n τ sr st x (.mL y.1 y.2)
 | .fix k,_=>∃ x,st.σ k=some x/\st₀.σ k=some x/\iN x=true
 | .arr k z r,y=>∃ x,st.σ k=some x/\GH n τ sr st x (.arr false z (List.map r.enc y))
 | .cF k,y=>∃ x,st.σ k=some x/\GH n τ sr st x (.cF y.1 y.2.1 y.2.2.1 y.2.2.2)
 | .xJ k o z r,y=>∃ cells c,st.σ k=some (.rows false [cells])/\cells[o]? = some c/\((∃ k' rows,c = .own k'/\st.σ k'=some (.arr false z rows)/\lZ rows=List.map r.enc y)\/(y=([]:List r.den)/\∃ tt,c = .p tt/\gP tt=some (true,[])))
def zX (n:Nat) (τ:Nat->Option bL) (π:Nat->Nat->Bool) (sr:List (Option Nat)) (st₀ st:St):(its:List It)->OG.den its->Prop
 | [],_=>True
 | it::l,y=>BRI n τ π sr st₀ st it y.1/\zX n τ π sr st₀ st l y.2
def AUH (n:Nat) (st₀ st:St) (its:List It) (y:OG.den its):Prop:=zX n (AUA its st₀ st) (rX its) (kJ its st) st₀ st its y
def xI {π:Nat->Nat->Bool} {k:Nat}:∀ {cells:List D} {i:Nat},(xH π k i cells).length=cells.length
 | [],_=>rfl
 | c::l,i=>by simp only[xH,List.length_cons,xI (cells:=l)]
def S5 {π:Nat->Nat->Bool} {k:Nat}:∀ {cells:List D} {i q:Nat} (h:q<cells.length),π k (i+q)=false->(xH π k i cells)[q]'(by rw[xI];exact h)=cells[q]
 | c::l,i,0,h,hp=>by
  simp only[xH,List.getElem_cons_zero];simp_all
 | c::l,i,q+1,h,hp=>by
  simp only[xH,List.getElem_cons_succ];exact S5 (by simpa using h) (by rw[<-hp];congr 1;omega)
structure A7F (π:Nat->Nat->Bool) (n k:Nat) (sr:List (Option Nat)) (cells:List D) (base row:List D):Prop where
 len:row.length=base.length
 at_:∀ i c,row[i]? = some c->(π k i=false/\base[i]? = some c)\/(π k i=true/\∃ j src,c = .own (n+j)/\sr[j]? = some src/\((∃ k',cells[i]? = some (.own k')/\src=some k')\/(src=none/\∃ tt,cells[i]? = some (.p tt)/\gP tt=some (true,[]))))
def AMN {w:World} {own:Nat->Prop} {tt:T} {v:Value} (h:cS w own tt v) (hr:gP tt=some (true,[])):∃ a,v = .slice a 0 0:=by
 unfold gP at hr;split at hr
 ·cases hr;cases h with
  | dF _ a cap hf hn=>rw[hf rfl];exact ⟨a,rfl⟩
  | sl _ _ sz b o cap g h1 h2 h3 h4 h45 h5 h6 h7 h8=>have:=h3 rfl;simp at this;subst this;exact ⟨_,rfl⟩
 ·cases hr;cases h;exact ⟨none,rfl⟩
 ·cases hr;cases h with
  | ne _ a cap hf=>exact ⟨some a,by rw[hf rfl]⟩
 ·cases hr
def AGR {w:World} {own:Nat->Prop} {a b:List T} (h:Wk a b) {v:Value} (hv:cS w own (.agg a) v):cS w own (.agg b) v:=by
 cases hv with
 | agg _ vs h1 h2 =>
  refine .agg b vs (by rw[h1,h.1]) λi hi=>?_;have hi':i<a.length:=by rw[h.1];exact hi
  exact h.2 i a[i] b[i] (by simp[hi']) (by simp[hi]) _ _ _ (h2 i hi')
def BFO {w:World} {own:Nat->Prop} {x:T} {b:List T} (h:Wk [x] b) {v:Value} (hv:cS w own x v):cS w own (hdT b) v:=by
 have hl:=h.1
 match b,hl with
 | [y],_=>exact h.2 0 x y rfl rfl _ _ _ hv
variable {π:Nat->Nat->Bool}{sr:List (Option Nat)}
def APL {n k:Nat} {cells:List D} {ts ts':List T} {row:List D} (hm:(xH π k 0 cells).mapM (j1 τ 4)=some ts) (h:Wk ts ts') (hw:A7F π n k sr cells (ts'.map .p) row):GH n τ sr st (.rows false [cells]) (.rows false [row]):=by
 refine ⟨λcx m w own' ρ ρ' l hρ hs hzz hb=>?_,rfl⟩;obtain ⟨m1,m2⟩:=mapM_some_length hm;rw[xI] at m1;refine ⟨λh0=>?_,λh0=>by obtain ⟨_,_,e⟩:=hb.2 h0;cases e⟩;obtain ⟨o,h1,h2⟩:=hb.1 h0;refine ⟨o,h1,?_⟩;have hlen:row.length=cells.length:=by rw[hw.len,ae,<-h.1,m1]
 cases h2 with
 | rows _ rs c hr hz h2 =>
  cases hr;refine .rows _ [row] c rfl (λ_ _ _ e=>by cases e) ⟨h2.size,h2.pos,h2.small,h2.len,h2.uX,λr hr=>?_,λi j hi hj=>?_,h2.one⟩
  ·have:=h2.width cells (by simp);simp_all
  ·have hi0:i=0:=by simpa using hi
   subst hi0;simp only[List.getElem_cons_zero] at hj;have hj2:j<cells.length:=by omega
   have hj':j<ts.length:=by omega
   obtain ⟨v,e1,e2⟩:=h2.cell 0 j (by simp) (by simpa using hj2);refine ⟨v,e1,?_⟩;simp only[List.getElem_cons_zero] at e2 ⊢;rcases hw.at_ j row[j] (by simp[hj]) with ⟨p1,p2⟩|⟨p1,q,src,p2,p3,p4⟩
   ·have e3:row[j] = .p (ts'[j]'(by rw[<-h.1];exact hj')):=by
     have:=List.getElem?_eq_some_iff.1 p2;obtain ⟨_,g⟩:=this;simp_all
    rw[e3];refine .p _ _ (h.2 j ts[j] _ (by simp[hj']) (by simp[h.1 ▸ hj']) _ _ _ (hzz.j1 (k:=4) e2 ?_));have:=m2 j (by rw[xI];exact hj2) hj';rw[S5 hj2 (by rw[Nat.zero_add];exact p1)] at this;exact this
   ·rw[p2];have h3:=hs q src p3;have hc:cells[j]? = some cells[j]:=by simp[hj2]
    rcases p4 with ⟨k',g1,rfl⟩|⟨rfl,tt,g1,g2⟩
    ·rw[hc] at g1;rw[Option.some.inj g1] at e2;cases e2 with
     | own _ lo hl hL h4 h5=>exact .own _ lo (h3.trans hl) hL h4 h5
     | eW _ lo a hl hL=>exact .eW _ lo a (h3.trans hl) hL
    ·rw[hc] at g1;rw[Option.some.inj g1] at e2;cases e2 with
     | p _ _ e2 =>
      obtain ⟨a,rfl⟩:=AMN e2 g2;exact .eW _ YU a h3 rfl
def BHL {w:World} {own:Nat->Prop} {e:Value×D} {v:Value} (h:Rd w own ρ e.2 v):Rd w own ρ (ACW e).2 v:=by
 unfold ACW;split
 ·rename_i t ht;rw[ht] at h;cases h with
  | p _ _ h=>exact .p _ _ (h.canon 1)
 ·exact h
def A7U (e:Value×D):(ACW e).1=e.1:=by unfold ACW;split<;>rfl
def AZH {n:Nat} {es:List (Value×D)} {kr:Sy} {ag:Bool} {r:Sy} {l:List (kr.den×r.den)} (h:es.map ACW=l.map (dC kr ag r)):GH n τ sr st (.map false es) (.map false (l.map (dC kr ag r))):=by
 refine ⟨λcx m w own' ρ ρ' lo hρ _ hz hb=>?_,rfl⟩;refine ⟨λh0=>?_,λh0=>by obtain ⟨_,_,e⟩:=hb.2 h0;cases e⟩;obtain ⟨o,h1,h2⟩:=hb.1 h0;refine ⟨o,h1,?_⟩;cases h2 with
 | rows _ rs c hr hz h2=>simp[fJ] at hr
 | map _ _ ents e1 e2 =>
  have hlen:es.length=(l.map (dC kr ag r)).length:=by rw[<-h];simp
  rw[hlen];refine .map false _ ents (by omega) λi hi=>?_;have hi':i<es.length:=by omega
  obtain ⟨e,g1,g2,g3,g4⟩:=e2 i hi';have he:(l.map (dC kr ag r))[i]=ACW es[i]:=by
   have:(es.map ACW)[i]'(by simpa using hi')=(l.map (dC kr ag r))[i]:=by congr 1
   rw[<-this];simp
  have hp:∃ t,(l.map (dC kr ag r))[i].2 = .p t:=by simp only[List.getElem_map];exact ⟨_,rfl⟩
  refine ⟨e,g1,?_,g3,?_⟩
  ·rw[he,A7U];exact g2
  ·have g5:=BHL g4;rw[<-he] at g5;obtain ⟨t,ht⟩:=hp;rw[ht] at g5 ⊢;cases g5 with
   | p _ _ g5=>exact .p _ _ (g5.less hz.sub)
def S9 {w:World} {own:Nat->Prop} {ρ':Nat->Option Loc} {l:Loc} {ro:Bool} {z:Nat} {rows:List (List T)} (ho:∀ b,own' b->own b) (h:kK w own ρ l (.arr ro z rows)):kK w own' ρ' l (.arr ro z (lZ rows)):=by
 refine ⟨λh0=>?_,λh0=>?_⟩
 ·obtain ⟨o,h1,h2⟩:=h.1 h0;refine ⟨o,h1,?_⟩;cases h2 with
  | rows _ rs c hr hz h2 =>
   cases hr;have hl:(bK (lZ rows)).length=(bK rows).length:=by simp[bK,lZ]
   refine .rows _ (bK (lZ rows)) c rfl (λ_ _ _ e=>by cases e;exact hz _ _ _ rfl) ⟨h2.size,h2.pos,by have:=h2.small;omega,by have:=h2.len;omega,by have:=h2.uX;omega,λr hr=>?_,λi j hi hj=>?_,h2.one⟩
   ·simp only[bK,lZ,List.map_map,List.mem_map,Function.comp] at hr;obtain ⟨r',hr',rfl⟩:=hr;have:=h2.width (r'.map .p) (by simp only[bK,List.mem_map];exact ⟨r',hr',rfl⟩);simp_all
   ·have hi':i<rows.length:=by simpa [bK,lZ] using hi
    have e1:(bK (lZ rows))[i]=(rows[i].map (T.canon 0)).map .p:=by simp[bK,lZ]
    have hj':j<rows[i].length:=by rw[e1] at hj;simpa using hj
    have e3:(bK rows)[i]'(by simpa using hi')=rows[i].map .p:=by simp[bK]
    obtain ⟨v,g1,g2⟩:=h2.cell i j (by simpa using hi') (by rw[e3];simpa using hj');refine ⟨v,g1,?_⟩;have e2:(bK (lZ rows))[i][j] = .p (T.canon 0 rows[i][j]):=by simp[bK,lZ]
    have e4:((bK rows)[i]'(by simpa using hi'))[j]'(by rw[e3];simpa using hj') = .p rows[i][j]:=by simp[bK]
    rw[e4] at g2;rw[e2];cases g2 with
    | p _ _ g2=>exact .p _ _ ((g2.canon 0).less ho)
 ·obtain ⟨_,_,e⟩:=h.2 h0;cases e;exact ⟨_,_,rfl⟩
variable {st₀:St}
def A8N {n:Nat} {it:It} {K:it.den->Prop} (h:exI cA τ π st₀ st it K):∃ y,K y/\BRI n τ π sr st₀ st it y:=by
 cases it with
 | val t ag r =>
  simp only[exI] at h;split at h
  ·rename_i cs hs;obtain ⟨y,h1,h2⟩:=vE h;exact ⟨y,h1,λcx m ρ w own' v hz hv=>AGR h2 (hz.j1 hv hs)⟩
  ·rename_i vs hs;obtain ⟨y,h1,h2⟩:=vE h;refine ⟨y,h1,λcx m ρ w own' v hz hv=>?_⟩;have hv:=hz.j1 hv hs;cases hv;exact AGR h2 (.agg _ _ (dO.vs (R:=cS w own') (g:=T.v) .v _).1 (dO.vs (R:=cS w own') (g:=T.v) .v _).2)
  ·rename_i x hs;obtain ⟨y,h1,h2⟩:=vE h;exact ⟨y,h1,λcx m ρ w own' v hz hv=>BFO h2 (hz.j1 hv hs)⟩
  ·exact h.elim
 | own t z r =>
  simp only[exI] at h;split at h
  ·rename_i k hs;split at h
   ·rename_i ro z' rows hσ;split at h
    ·rename_i hc;simp only[ac,Bool.not_eq_true',beq_iff_eq] at hc;obtain ⟨rfl,rfl⟩:=hc;obtain ⟨l,h1,h2⟩:=h;exact ⟨l,h2,.inl ⟨k,rows,hs,hσ,h1⟩⟩
    ·exact h.elim
   ·exact h.elim
  ·rename_i tt hs;split at h
   ·rename_i hr;exact ⟨[],h,.inr ⟨rfl,tt,hs,hr⟩⟩
   ·exact h.elim
  ·exact h.elim
 | box k r =>
  simp only[exI] at h;split at h
  ·rename_i ro cells hσ;split at h
   ·rename_i ts hts;obtain ⟨y,h1,h2⟩:=vE h;exact ⟨y,h1,cells,ts,hσ,hts,h2⟩
   ·exact h.elim
  ·exact h.elim
 | map k kr ag r =>
  simp only[exI] at h;split at h
  ·rename_i ro es hσ;split at h
   ·obtain ⟨l,h1,h2⟩:=h;exact ⟨l,h2,_,hσ,AZH h1⟩
   ·exact h.elim
  ·exact h.elim
 | mL k =>
  simp only[exI] at h;split at h
  ·rename_i s pos hσ;exact ⟨(s,pos),h,_,hσ,λcx m w own' ρ ρ' l hρ _ hz hb=>hb.cut hρ hz.sub trivial,rfl⟩
  ·exact h.elim
 | fix k =>
  simp only[exI] at h;split at h
  ·rename_i x y hx hy;split at h
   ·rename_i hw;obtain ⟨rfl,h⟩:=h;exact ⟨(),h,_,hx,hy,hw⟩
   ·exact h.elim
  ·exact h.elim
 | arr k z r =>
  simp only[exI] at h;split at h
  ·rename_i ro z' rows hσ;split at h
   ·rename_i hc;simp only[ac,Bool.not_eq_true',beq_iff_eq] at hc;obtain ⟨rfl,rfl⟩:=hc;obtain ⟨l,h1,h2⟩:=h;refine ⟨l,h2,_,hσ,λcx m w own' ρ ρ' lo hρ _ hz hb=>?_,rfl⟩;rw[<-h1];exact S9 hz.sub hb
   ·exact h.elim
  ·exact h.elim
 | cF k =>
  simp only[exI] at h;split at h
  ·rename_i es since seen last hσ;exact ⟨(es,since,seen,last),h,_,hσ,λcx m w own' ρ ρ' l hρ _ hz hb=>hb.cut hρ hz.sub trivial,rfl⟩
  ·exact h.elim
 | xJ k o z r =>
  simp only[exI] at h;split at h
  ·rename_i cells hσ;split at h
   ·rename_i k' hc;split at h
    ·rename_i ro z' rows hσ';split at h
     ·rename_i hw;simp only[ac,Bool.not_eq_true',beq_iff_eq] at hw;obtain ⟨rfl,rfl⟩:=hw;obtain ⟨l,h1,h2⟩:=h;exact ⟨l,h2,cells,_,hσ,hc,.inl ⟨k',rows,rfl,hσ',h1⟩⟩
     ·exact h.elim
    ·exact h.elim
   ·rename_i tt hc;split at h
    ·rename_i hr;exact ⟨[],h,cells,_,hσ,hc,.inr ⟨rfl,tt,rfl,hr⟩⟩
    ·exact h.elim
   ·exact h.elim
  ·exact h.elim
def OQ {n:Nat} {τ:Nat->Option bL} {π:Nat->Nat->Bool} {sr:List (Option Nat)} {st₀ st:St}:∀ {its:List It} {K:OG.den its->Prop},APY cA τ π st₀ st its K->∃ y,K y/\zX n τ π sr st₀ st its y
 | [],K,h=>⟨(),h,trivial⟩
 | it::l,K,h=>by
  obtain ⟨x,h1,h2⟩:=A8N (sr:=sr) h;obtain ⟨y,h3,h4⟩:=OQ (sr:=sr) h1;exact ⟨(x,y),h3,h2,h4⟩
def TS {n:Nat} {its:List It} {K:OG.den its->Prop} (h:A8O cA st₀ st its K):∃ y,K y/\AUH n st₀ st its y:=OQ h
end Go.Pv
