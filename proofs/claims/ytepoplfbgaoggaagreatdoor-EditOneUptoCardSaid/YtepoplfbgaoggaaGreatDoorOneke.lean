/-
  The symbolic executor, part e: from a state to what is known where ways come together.
-/
import Derived.Test.YtepoplfbgaoggaaGreatDoorOnekd
set_option linter.defProp false
set_option linter.unusedSimpArgs false
namespace Go.Pv
open Go Go.RowKit
section
variable {n : Nat} {st₀ st : St}
def jH {τ:Nat->Option bL} {π:Nat->Nat->Bool} {sr:List (Option Nat)} {f:Nat->List D->List D} {k:Nat} {x:bL} (hbb:∀ k x,st₀.σ k=some x->ABG n x) (hf:∀ cells base,st.σ k=some (.rows false [cells])->A7F π n k sr cells base (f k base)):∀ {its:List It} {y:OG.den its},zX n τ π sr st₀ st its y->zO f st₀ its y k=some x->LG its k=true/\∃ x',st.σ k=some x'/\GH n τ sr st x' x
 | [],_,_,h=>by simp[zO] at h
 | .val _ _ _::l,y,hy,h=>jH hbb hf (its:=l) hy.2 h
 | .own _ _ _::l,y,hy,h=>jH hbb hf (its:=l) hy.2 h
 | .box k' r::l,y,hy,h=>by
  simp only[zO] at h;split at h
  ·rename_i e;have e:k=k':=by simpa using e
   subst e;cases h;obtain ⟨cells,ts,h1,h2,h3⟩:=hy.1;exact ⟨by simp[LG],_,h1,APL h2 h3 (hf _ _ h1)⟩
  ·obtain ⟨h1,h2⟩:=jH hbb hf hy.2 h;exact ⟨by simp[LG,h1],h2⟩
 | .map k' kr ag r::l,y,hy,h=>by
  simp only[zO] at h;split at h
  ·rename_i e;have e:k=k':=by simpa using e
   subst e;cases h;exact ⟨by simp[LG],hy.1⟩
  ·obtain ⟨h1,h2⟩:=jH hbb hf hy.2 h;exact ⟨by simp[LG,h1],h2⟩
 | .mL k'::l,y,hy,h=>by
  simp only[zO] at h;split at h
  ·rename_i e;have e:k=k':=by simpa using e
   subst e;cases h;exact ⟨by simp[LG],hy.1⟩
  ·obtain ⟨h1,h2⟩:=jH hbb hf hy.2 h;exact ⟨by simp[LG,h1],h2⟩
 | .fix k'::l,y,hy,h=>by
  simp only[zO] at h;split at h
  ·rename_i e;have e:k=k':=by simpa using e
   subst e;obtain ⟨x',h1,h2,h3⟩:=hy.1;rw[h2] at h;cases h;exact ⟨by simp[LG],_,h1,λcx m w own' ρ ρ' l hρ _ hz hb=>hb.cut hρ hz.sub (hbb _ _ h2),h3⟩
  ·obtain ⟨h1,h2⟩:=jH hbb hf hy.2 h;exact ⟨by simp[LG,h1],h2⟩
 | .arr k' z r::l,y,hy,h=>by
  simp only[zO] at h;split at h
  ·rename_i e;have e:k=k':=by simpa using e
   subst e;cases h;exact ⟨by simp[LG],hy.1⟩
  ·obtain ⟨h1,h2⟩:=jH hbb hf hy.2 h;exact ⟨by simp[LG,h1],h2⟩
 | .cF k'::l,y,hy,h=>by
  simp only[zO] at h;split at h
  ·rename_i e;have e:k=k':=by simpa using e
   subst e;cases h;exact ⟨by simp[LG],hy.1⟩
  ·obtain ⟨h1,h2⟩:=jH hbb hf hy.2 h;exact ⟨by simp[LG,h1],h2⟩
 | .xJ _ _ _ _::l,y,hy,h=>jH hbb hf (its:=l) hy.2 h
def BRJ (st:St) (src:Option Nat) (x:bL):Prop :=
 (∃ k z rows,src=some k/\st.σ k=some (.arr false z rows)/\x = .arr false z (lZ rows))\/(src=none/\∃ z,x = .arr false z [])
def jI {τ:Nat->Option bL} {π:Nat->Nat->Bool} {sr:List (Option Nat)} {x:bL}:∀ {its:List It} {y:OG.den its} {j:Nat},zX n τ π sr st₀ st its y->PL its y j=some x->∃ src,(kJ its st)[j]? = some src/\BRJ st src x
 | [],_,_,_,h=>by simp[PL] at h
 | .own t z r::l,y,0,hy,h=>by
  cases h;refine ⟨_,rfl,?_⟩;rcases hy.1 with ⟨k,rows,h1,h2,h3⟩|⟨h1,tt,h2,h3⟩
  ·simp only[h1];exact .inl ⟨k,z,rows,rfl,h2,by rw[h3]⟩
  ·simp only[h2];exact .inr ⟨rfl,z,by rw[h1];rfl⟩
 | .own t z r::l,y,j+1,hy,h=>jI (its:=l) (j:=j) hy.2 h
 | .val _ _ _::l,y,j,hy,h=>jI (its:=l) hy.2 h
 | .box _ _::l,y,j,hy,h=>jI (its:=l) hy.2 h
 | .map _ _ _ _::l,y,j,hy,h=>jI (its:=l) hy.2 h
 | .mL _::l,y,j,hy,h=>jI (its:=l) hy.2 h
 | .fix _::l,y,j,hy,h=>jI (its:=l) hy.2 h
 | .arr _ _ _::l,y,j,hy,h=>jI (its:=l) hy.2 h
 | .cF _::l,y,j,hy,h=>jI (its:=l) hy.2 h
 | .xJ k o z r::l,y,0,hy,h=>by
  cases h;refine ⟨_,rfl,?_⟩;obtain ⟨cells,c,h1,h2,⟨k',rows,rfl,h3,h4⟩|⟨h3,tt,rfl,h4⟩⟩:=hy.1
  ·simp only[CP,h1,h2];exact .inl ⟨k',z,rows,rfl,h3,by rw[h4]⟩
  ·simp only[CP,h1,h2];exact .inr ⟨rfl,z,by rw[h3];rfl⟩
 | .xJ _ _ _ _::l,y,j+1,hy,h=>jI (its:=l) (j:=j) hy.2 h
def j5 {τ:Nat->Option bL} {π:Nat->Nat->Bool} {sr:List (Option Nat)} {cx:Cx} {m:Nat} {w:World} {own':Nat->Prop} {ρ ρ':Nat->Option Loc} (hz:AYR τ st cx ρ m w own') {i:Nat} {v:Value} (hv:Rd w (bY cx ρ st.σ) ρ (st.s i) v):∀ {its:List It} {y:OG.den its} {j:Nat},zX n τ π sr st₀ st its y ->
  (∀ m src,(kJ its st)[m]? = some src->ρ' (n+(j+m))=match src with
   | some k=>ρ k
   | none=>some YU)->Rd w own' ρ' (GV n its y j i) v
 | [],_,_,_,_=>.any v
 | .val t ag r::l,y,j,hy,hρ=>by
  simp only[GV];split
  ·rename_i e;have e:i=t:=by simpa using e
   subst e;exact .p _ _ (hy.1 _ _ _ _ _ _ hz hv)
  ·exact j5 hz hv hy.2 hρ
 | .own t z r::l,y,j,hy,hρ=>by
  simp only[GV];split
  ·rename_i e;have e:i=t:=by simpa using e
   subst e;have h0:=hρ 0 _ rfl;rcases hy.1 with ⟨k,rows,h1,h2,h3⟩|⟨h1,tt,h2,h3⟩
   ·rw[h1] at hv;simp only[h1] at h0;cases hv with
    | own _ lo hl hL h4 h5=>exact .own _ lo (h0.trans hl) hL h4 h5
    | eW _ lo a hl hL=>exact .eW _ lo a (h0.trans hl) hL
   ·rw[h2] at hv;simp only[h2] at h0;cases hv with
    | p _ _ hv =>
     obtain ⟨a,rfl⟩:=AMN hv h3;exact .eW _ YU a h0 rfl
  ·refine j5 hz hv hy.2 λm src hm=>?_;have:=hρ (m+1) src (by simpa [kJ] using hm);rw[<-this]
   congr 1
   omega
 | .box _ _::l,y,j,hy,hρ=>j5 (its:=l) hz hv hy.2 hρ
 | .map _ _ _ _::l,y,j,hy,hρ=>j5 (its:=l) hz hv hy.2 hρ
 | .mL _::l,y,j,hy,hρ=>j5 (its:=l) hz hv hy.2 hρ
 | .fix _::l,y,j,hy,hρ=>j5 (its:=l) hz hv hy.2 hρ
 | .arr _ _ _::l,y,j,hy,hρ=>j5 (its:=l) hz hv hy.2 hρ
 | .cF _::l,y,j,hy,hρ=>j5 (its:=l) hz hv hy.2 hρ
 | .xJ _ _ _ _::l,y,j,hy,hρ=>j5 (its:=l) hz hv hy.2 λm src hm=>by
  have:=hρ (m+1) src (by simpa [kJ] using hm)
  grind
def lY {τ:Nat->Option bL} {π:Nat->Nat->Bool} {sr:List (Option Nat)} {k o:Nat}:∀ {its:List It} {y:OG.den its},zX n τ π sr st₀ st its y->rX its k o=true->∃ cells c,st.σ k=some (.rows false [cells])/\cells[o]? = some c/\((∃ k',c = .own k')\/∃ tt,c = .p tt/\gP tt=some (true,[]))
 | [],_,_,h=>by cases h
 | .xJ k' o' z r::l,y,hy,h=>by
  simp only[rX,Bool.or_eq_true,ac,beq_iff_eq] at h;rcases h with ⟨rfl,rfl⟩|h
  ·obtain ⟨cells,c,h1,h2,⟨k',rows,h3,_⟩|⟨_,tt,h3,h4⟩⟩:=hy.1
   ·exact ⟨cells,c,h1,h2,.inl ⟨k',h3⟩⟩
   ·exact ⟨cells,c,h1,h2,.inr ⟨tt,h3,h4⟩⟩
  ·exact lY (its:=l) hy.2 h
 | .val _ _ _::l,y,hy,h=>lY (its:=l) hy.2 h
 | .own _ _ _::l,y,hy,h=>lY (its:=l) hy.2 h
 | .box _ _::l,y,hy,h=>lY (its:=l) hy.2 h
 | .map _ _ _ _::l,y,hy,h=>lY (its:=l) hy.2 h
 | .mL _::l,y,hy,h=>lY (its:=l) hy.2 h
 | .fix _::l,y,hy,h=>lY (its:=l) hy.2 h
 | .arr _ _ _::l,y,hy,h=>lY (its:=l) hy.2 h
 | .cF _::l,y,hy,h=>lY (its:=l) hy.2 h
def kT {k:Nat} {base:List D}:∀ {its:List It} {j:Nat},(VV n its j k base).length=base.length
 | [],_=>rfl
 | .xJ k' o _ _::l,j=>by
  simp only[VV];split
  ·rw[List.length_set];exact kT (its:=l)
  ·exact kT (its:=l)
 | .own _ _ _::l,j=>kT (its:=l)
 | .val _ _ _::l,j=>kT (its:=l)
 | .box _ _::l,j=>kT (its:=l)
 | .map _ _ _ _::l,j=>kT (its:=l)
 | .mL _::l,j=>kT (its:=l)
 | .fix _::l,j=>kT (its:=l)
 | .arr _ _ _::l,j=>kT (its:=l)
 | .cF _::l,j=>kT (its:=l)
def pB {k i:Nat} {base:List D} {c:D}:∀ {its:List It} {j:Nat},(VV n its j k base)[i]? = some c->(rX its k i=false/\base[i]? = some c)\/(rX its k i=true/\∃ m,c = .own (n+(j+m))/\(kJ its st)[m]? = some (CP st k i))
 | [],_,h=>.inl ⟨rfl,h⟩
 | .xJ k' o z r::l,j,h=>by
  have next:(VV n l (j+1) k base)[i]? = some c->(rX (.xJ k' o z r::l) k i=false/\base[i]? = some c)\/(rX (.xJ k' o z r::l) k i=true/\∃ m,c = .own (n+(j+m))/\(kJ (.xJ k' o z r::l) st)[m]? = some (CP st k i))\/(k=k'/\i=o):=λh=>by
   rcases pB (its:=l) h with ⟨h1,h2⟩|⟨h1,m,h2,h3⟩
   ·cases hc:(k == k'&&i == o) with
    | true=>simp only[ac,beq_iff_eq] at hc;exact .inr (.inr hc)
    | false=>exact .inl ⟨by simp only[rX,hc,h1,Bool.or_self],h2⟩
   ·exact .inr (.inl ⟨by simp only[rX,h1,Bool.or_true],m+1,by rw[h2];congr 1;omega,by simpa [kJ] using h3⟩)
  simp only[VV] at h;split at h
  ·rename_i e;have e:k=k':=by simpa using e
   subst e;rw[List.getElem?_set] at h;split at h
   ·rename_i e;subst e;split at h
    ·cases h;exact .inr ⟨by simp[rX],0,rfl,rfl⟩
    ·cases h
   ·rcases next h with h|h|h
    ·simp_all
    ·simp_all
    ·omega
  ·simp_all
 | .own _ _ _::l,j,h=>by
  rcases pB (its:=l) (j:=j+1) h with h|⟨h1,m,h2,h3⟩
  ·exact .inl h
  ·exact .inr ⟨h1,m+1,by rw[h2];congr 1;omega,by simpa [kJ] using h3⟩
 | .val _ _ _::l,j,h=>pB (its:=l) h
 | .box _ _::l,j,h=>pB (its:=l) h
 | .map _ _ _ _::l,j,h=>pB (its:=l) h
 | .mL _::l,j,h=>pB (its:=l) h
 | .fix _::l,j,h=>pB (its:=l) h
 | .arr _ _ _::l,j,h=>pB (its:=l) h
 | .cF _::l,j,h=>pB (its:=l) h
variable {its:List It}
def AAR {τ:Nat->Option bL} {y:OG.den its} (hy:zX n τ (rX its) (kJ its st) st₀ st its y) {k:Nat} {cells base:List D} (hc:st.σ k=some (.rows false [cells])):A7F (rX its) n k (kJ its st) cells base (VV n its 0 k base):=by
 refine ⟨kT,λi c hi=>?_⟩;rcases pB (st:=st) hi with h|⟨h1,m,h2,h3⟩
 ·simp_all
 ·refine .inr ⟨h1,m,_,by rw[h2,Nat.zero_add],h3,?_⟩;obtain ⟨cells',c',g1,g2,g3⟩:=lY hy h1;rw[hc] at g1;obtain rfl:cells=cells':=by simpa using g1
  simp only[CP,hc,g2];rcases g3 with ⟨k',rfl⟩|⟨tt,rfl,g4⟩
  ·simp
  ·simp_all
def BJ:∀ {l:List (Option Nat)} {k:Nat},some k∈l->AK7 l k=true
 | [],_,h=>by cases h
 | some a::l,k,h=>by
  simp only[AK7,Bool.or_eq_true,beq_iff_eq];rcases List.mem_cons.1 h with h|h
  ·simp_all
  ·exact .inr (BJ h)
 | none::l,k,h=>by
  rcases List.mem_cons.1 h with h|h
  ·cases h
  ·exact BJ (l:=l) h
def LB:∀ {l:List (Option Nat)} {i j k:Nat},apart l=true->l[i]? = some (some k)->l[j]? = some (some k)->i=j
 | [],i,_,_,_,h,_=>by simp at h
 | some a::l,i,j,k,ha,hi,hj=>by
  simp only[Go.Pv.apart,ac,Bool.not_eq_true'] at ha
  match i,j with
  | 0,0=>rfl
  | i+1,j+1=>simp only[List.getElem?_cons_succ] at hi hj;rw[LB ha.2 hi hj]
  | 0,j+1 =>
   simp only[List.getElem?_cons_zero,Option.some.injEq] at hi;simp only[List.getElem?_cons_succ] at hj;subst hi;rw[BJ (List.mem_of_getElem? hj)] at ha;cases ha.1
  | i+1,0 =>
   simp only[List.getElem?_cons_zero,Option.some.injEq] at hj;simp only[List.getElem?_cons_succ] at hi;subst hj;rw[BJ (List.mem_of_getElem? hi)] at ha;cases ha.1
 | none::l,i,j,k,ha,hi,hj=>by
  match i,j with
  | 0,_=>simp at hi
  | i+1,0=>simp at hj
  | i+1,j+1=>simp only[List.getElem?_cons_succ] at hi hj;rw[LB (l:=l) ha hi hj]
end
variable {its:List It}{st₀:St}
def nB {k:Nat} (h:kept its st₀ k=true):k<st₀.n/\∃ x,st₀.σ k=some x/\iN (lock x)=false/\(iN x=false\/(LG its k=false/\AK7 (kJ its st₀) k=false)):=by
 unfold kept at h;simp only[ac,ah] at h;obtain ⟨h1,h2⟩:=h;refine ⟨h1,?_⟩;split at h2
 ·rename_i x hx;refine ⟨x,hx,?_⟩;simp only[Bool.or_eq_true,Bool.not_eq_true',ac] at h2;rcases h2 with h2|⟨⟨h2,h3⟩,h4⟩
  ·exact ⟨BIQ h2,.inl h2⟩
  ·refine ⟨?_,.inr ⟨h2,h3⟩⟩;cases x<;>first|rfl|(simp[ALF] at h4)
 ·cases h2
def I2 {k:Nat} {x:bL} (hk:k<st₀.n) (hx:st₀.σ k=some x) (hw:iN x=false):kept its st₀ k=true:=by
 unfold kept;simp_all
section
variable {cx : Cx} {nt : Nat} {its : List It} {A : Nat -> Bool} {st₀ st : St} {y : OG.den its} {ρ : Nat -> Option Loc} {a : Act} {w : World}
def BHF (hR:Rel cx nt ρ st a w) (hbs:∀ i,A i=false->XY st₀.n (st₀.s i)) (hbb:∀ k x,st₀.σ k=some x->ABG st₀.n x) (hbase:∀ k l,cx.ρb k=some l->k<st₀.n)
  (hbro:∀ k x,cx.σb k=some x->iN x=false->kept its st₀ k=true) (hs:∀ i,A i=false->st.s i=st₀.s i)
  (hk:∀ k x,kept its st₀ k=true->st₀.σ k=some x->st.σ k=some (lock x)) (hok:AAA its st₀ st=true) (hy:AUH st₀.n st₀ st its y) :
  ∃ ρ',Rel cx nt ρ' (GF its A st₀ y) a w:=by
 unfold AAA at hok;simp only[ac,List.all_eq_true] at hok;obtain ⟨hap,hsrc⟩:=hok
 let ρ':Nat->Option Loc:=λk=>match decide (k<st₀.n) with
  | true=>ρ k
  | false=>match (kJ its st)[k-st₀.n]? with
   | some (some k')=>ρ k'
   | some none=>some YU
   | none=>none
 have hρ:∀ k,k<st₀.n->ρ' k=ρ k:=λk hk=>by simp only[ρ',ai hk]
 have hρo:∀ m src,(kJ its st)[m]? = some src->ρ' (st₀.n+m)=match src with
   | some k=>ρ k
   | none=>some YU:=λm src hm=>by
  have h1:decide (st₀.n+m<st₀.n)=false:=aj (by omega);simp only[ρ',h1,Nat.add_sub_cancel_left,hm];cases src<;>rfl
 have back:∀ k x l,(GF its A st₀ y).σ k=some x->ρ' k=some l->0<l.L+l.C->∃ k' x',st.σ k'=some x'/\ρ k'=some l/\(iN x=true->iN x'=true) /\
   ((k<st₀.n/\k'=k)\/(st₀.n<=k/\(kJ its st)[k-st₀.n]? = some (some k')/\∃ z rows,x' = .arr false z rows))/\(k<st₀.n->kept its st₀ k=false->LG its k=true/\GH st₀.n (AUA its st₀ st) (kJ its st) st x' x):=by
  intro k x l hx hl hL;by_cases hlt:k<st₀.n
  ·simp only[GF,ai hlt] at hx;rw[hρ k hlt] at hl;cases hke:kept its st₀ k with
   | true =>
    rw[hke] at hx;obtain ⟨_,x0,h0,h1,_⟩:=nB hke;simp only[h0,Option.map_some,Option.some.injEq] at hx;subst hx;exact ⟨k,_,hk k x0 hke h0,hl,λh=>h,.inl ⟨hlt,rfl⟩,λ_ h=>by cases h⟩
   | false =>
    rw[hke] at hx;obtain ⟨hc,x',h1,h2⟩:=jH hbb (λcells base hc=>AAR hy hc) hy hx;exact ⟨k,x',h1,hl,λ_=>h2.wr,.inl ⟨hlt,rfl⟩,λ_ _=>⟨hc,h2⟩⟩
  ·simp only[GF,aj hlt] at hx;obtain ⟨src,h1,h2⟩:=jI hy hx;have h3:=hρo (k-st₀.n) src h1;rw[show st₀.n+(k-st₀.n)=k by omega,hl] at h3;rcases h2 with ⟨k',z,rows,rfl,h4,h5⟩|⟨rfl,z,h5⟩
   ·refine ⟨k',_,h4,h3.symm,λ_=>rfl,.inr ⟨by omega,h1,z,rows,rfl⟩,λh=>absurd h hlt⟩
   ·simp only[Option.some.injEq] at h3;rw[h3] at hL;exact absurd hL (by simp[YU])
 have hown:∀ b,bY cx ρ' (GF its A st₀ y).σ b->bY cx ρ st.σ b:=by
  intro b hb;rcases hb with hb|⟨k,l,x,h1,h2,h3,h4⟩
  ·exact .inl hb
  ·obtain ⟨k',x',g1,g2,_⟩:=back k x l h1 h2 h3;exact .inr ⟨k',l,x',g1,g2,h3,h4⟩
 have hz:AYR (AUA its st₀ st) st cx ρ st.n w (bY cx ρ' (GF its A st₀ y).σ):=by
  have tau:∀ k x,AUA its st₀ st k=some x->BA1 its st₀ st k=true/\st.σ k=some x:=λk x h=>by
   unfold AUA at h
   grind
  refine ⟨hR.inv,hown,λk x h=>(tau k x h).2,λk x l hx hl hL hb=>?_⟩;obtain ⟨hg,hx⟩:=tau k x hx;unfold BA1 at hg;simp only[ac,ah,Bool.not_eq_true'] at hg;rcases hb with hb|⟨k1,l1,x1,h1,h2,h3,h4⟩
  ·exact ((hR.inv.new k l hl).2 hL).2 hb
  ·obtain ⟨k',x',g1,g2,_,g4,_⟩:=back k1 x1 l1 h1 h2 h3;have hk':k'=k:=hR.inv.inj k' k x' x l1 l g1 hx g2 hl h3 hL h4;subst hk';rcases g4 with ⟨g5,rfl⟩|⟨_,g5,_⟩
   ·omega
   ·rw[BJ (List.mem_of_getElem? g5)] at hg;cases hg.2
 have hdom:∀ k l,ρ' k=some l->k<st₀.n+D2 its:=by
  intro k l hl;by_cases hlt:k<st₀.n
  ·omega
  ·have h1:decide (k<st₀.n)=false:=aj hlt;simp only[ρ',h1] at hl;have:k-st₀.n<(kJ its st).length:=by
    rcases Nat.lt_or_ge (k-st₀.n) (kJ its st).length with h|h
    ·exact h
    ·simp_all
   rw[mE] at this;omega
 have hlook:∀ k l,ρ' k=some l->0<l.L+l.C->∃ k',ρ k'=some l:=by
  intro k l hl hL;by_cases hlt:k<st₀.n
  ·exact ⟨k,(hρ k hlt).symm.trans hl⟩
  ·have h1:decide (k<st₀.n)=false:=aj hlt;simp only[ρ',h1] at hl;split at hl
   ·exact ⟨_,hl⟩
   ·cases hl;exact absurd hL (by simp[YU])
   ·cases hl
 have hbox:∀ k x,(GF its A st₀ y).σ k=some x->∃ l,ρ' k=some l/\kK w (bY cx ρ' (GF its A st₀ y).σ) ρ' l x:=by
  intro k x hx;by_cases hlt:k<st₀.n
  ·simp only[GF,ai hlt] at hx;cases hke:kept its st₀ k with
   | true =>
    rw[hke] at hx;obtain ⟨_,x0,h0,h1,_⟩:=nB hke;simp only[h0,Option.map_some,Option.some.injEq] at hx;subst hx;obtain ⟨l,hl,hb⟩:=hR.inv.boxes k _ (hk k x0 hke h0);refine ⟨l,(hρ k hlt).trans hl,?_⟩;have hb0:kK w (bY cx ρ st.σ) ρ l x0:=hb.AEX (C2 x0);exact (hb0.cut hρ hown (hbb k x0 h0)).AEX (C2 x0).symm
   | false =>
    rw[hke] at hx;obtain ⟨hc,x',h1,h2⟩:=jH hbb (λcells base hc=>AAR hy hc) hy hx;obtain ⟨l,hl,hb⟩:=hR.inv.boxes k _ h1;exact ⟨l,(hρ k hlt).trans hl,h2.ok _ _ _ _ _ _ _ hρ hρo hz hb⟩
  ·simp only[GF,aj hlt] at hx;obtain ⟨src,h1,h2⟩:=jI hy hx;have h3:=hρo (k-st₀.n) src h1;rw[show st₀.n+(k-st₀.n)=k by omega] at h3;rcases h2 with ⟨k',z,rows,rfl,h4,rfl⟩|⟨rfl,z,rfl⟩
   ·obtain ⟨l,hl,hb⟩:=hR.inv.boxes k' _ h4;exact ⟨l,h3.trans hl,S9 hown hb⟩
   ·exact ⟨YU,h3,λh=>by simp[YU] at h,λ_=>⟨_,_,rfl⟩⟩
 have hinj:∀ k k' x x' l l',(GF its A st₀ y).σ k=some x->(GF its A st₀ y).σ k'=some x'->ρ' k=some l->ρ' k'=some l'->0<l.L+l.C->0<l'.L+l'.C->l.bV=l'.bV->k=k':=by
  intro k k' x x' l l' h1 h2 h3 h4 h5 h6 h7;obtain ⟨q,u,a1,a2,a3,a4,a5⟩:=back k x l h1 h3 h5;obtain ⟨q',u',b1,b2,b3,b4,b5⟩:=back k' x' l' h2 h4 h6;have hq:q=q':=hR.inv.inj q q' u u' l l' a1 b1 a2 b2 h5 h6 h7;subst hq;rw[a1] at b1;cases b1;have mixed:∀ (k k':Nat) (x:bL),(k<st₀.n/\q=k)->(st₀.n<=k'/\(kJ its st)[k'-st₀.n]? = some (some q)/\∃ z rows,u = .arr false z rows)->(k<st₀.n->kept its st₀ k=false->LG its k=true/\GH st₀.n (AUA its st₀ st) (kJ its st) st u x)->False:=by
   intro k k' x hA hB hC;obtain ⟨_,hB1,z,rows,hB2⟩:=hB;have:=hsrc (some q) (List.mem_of_getElem? hB1);simp_all
  rcases a4 with a4|a4<;>rcases b4 with b4|b4
  ·omega
  ·exact (mixed k k' x a4 b4 a5).elim
  ·exact (mixed k' k x' b4 a4 b5).elim
  ·have:=LB hap a4.2.1 b4.2.1;omega
 refine ⟨ρ',⟨hbox,hinj,λk l hl=>⟨hdom k l hl,λhL=>?_⟩,λk x l hx hl hL hw=>?_,hR.inv.below,hR.inv.nC,hR.inv.low⟩,hR.nt,hR.defers,
  ⟨hR.keeps.cell,hR.keeps.size,λb hb hn hc=>hR.keeps.own b hb hn (hown b hc),λk l hl=>(hρ k (hbase k l hl)).trans (hR.keeps.loc k l hl),hR.keeps.shape,λk x hx hw=>?_⟩,hR.yB,λi=>?_⟩
 ·obtain ⟨k',hk'⟩:=hlook k l hl hL;exact (hR.inv.new k' l hk').2 hL
 ·obtain ⟨k',x',g1,g2,g3,_⟩:=back k x l hx hl hL;exact hR.inv.uQ k' x' l g1 g2 hL (g3 hw)
 ·have hke:=hbro k x hx hw;obtain ⟨hlt,x0,h0,h1,_⟩:=nB hke;exact ⟨lock x0,by simp only[GF,ai hlt,hke,h0,Option.map_some],h1⟩
 ·have hv:=hR.uD i;cases hA:A i with
  | false =>
   have e:(GF its A st₀ y).s i=st₀.s i:=by simp only[GF,hA]
   rw[e];rw[hs i hA] at hv;exact hv.cut hρ hown (hbs i hA)
  | true =>
   have e:(GF its A st₀ y).s i=GV st₀.n its y 0 i:=by simp only[GF,hA]
   rw[e];refine j5 (n:=st₀.n) (ρ:=ρ) hz hv hy λm src hm=>?_;simp_all
def PU (cx:Cx) (its:List It) (st₀:St) (ρ:Nat->Option Loc) (w:World):Cx:=⟨cx.P,cx.own,cx.w0,ρ,(YP its st₀).σ,w,cx.arg⟩
def I5 {k:Nat} {x:bL} (h:(YP its st₀).σ k=some x):∃ x0,st₀.σ k=some x0/\lock x=lock x0/\(iN x=true->x=x0):=by
 simp only[YP] at h;split at h
 ·rename_i hke;obtain ⟨_,x0,h0,h1,_⟩:=nB hke;simp only[h0,Option.map_some,Option.some.injEq] at h;subst h;exact ⟨x0,h0,C2 x0,λh=>by rw[h1] at h;cases h⟩
 ·simp_all
def BSI {k:Nat} {x:bL} (h:st₀.σ k=some x):∃ x',(YP its st₀).σ k=some x':=by
 simp only[YP];split
 ·simp_all
 ·simp_all
def BBP (cx':Cx) (ho:cx'.own=cx.own):bY cx' ρ (YP its st₀).σ=bY cx ρ st₀.σ:=by
 funext b
 simp only[bY,ho,eq_iff_iff];refine or_congr Iff.rfl ⟨λ⟨k,l,x,h1,h2⟩=>?_,λ⟨k,l,x,h1,h2⟩=>?_⟩
 ·obtain ⟨x0,h0,_⟩:=I5 h1;exact ⟨k,l,x0,h0,h2⟩
 ·obtain ⟨x',h'⟩:=BSI (its:=its) h1;exact ⟨k,l,x',h',h2⟩
def BBQ (hR:Rel cx nt ρ st₀ a w):Rel (PU cx its st₀ ρ w) nt ρ (YP its st₀) a w:=by
 have ho:bY (PU cx its st₀ ρ w) ρ (YP its st₀).σ=bY cx ρ st₀.σ:=BBP _ rfl;refine ⟨⟨λk x hx=>?_,λk k' x x' l l' h1 h2=>?_,hR.inv.new,λk x l hx hl hL hw=>?_,hR.inv.below,hR.inv.nC,hR.inv.low⟩,hR.nt,hR.defers,?_,hR.yB,λi=>?_⟩
 ·obtain ⟨x0,h0,h1,_⟩:=I5 hx;obtain ⟨l,hl,hb⟩:=hR.inv.boxes k x0 h0;rw[ho];exact ⟨l,hl,hb.AEX h1.symm⟩
 ·obtain ⟨x0,h0,_⟩:=I5 h1;obtain ⟨x0',h0',_⟩:=I5 h2;exact hR.inv.inj k k' x0 x0' l l' h0 h0'
 ·obtain ⟨x0,h0,h1,h2⟩:=I5 hx;have:=h2 hw;subst this;exact hR.inv.uQ k x l h0 hl hL hw
 ·exact ⟨λ_ _ _=>rfl,al _,λ_ _ h=>h,λ_ _ h=>h,λ_ _ h=>h,λk x hx hw=>⟨x,hx,hw⟩⟩
 ·rw[ho];exact hR.uD i
def AUB (hR0:Rel cx nt ρ st₀ a w) {ρ₁:Nat->Option Loc} {a₁:Act} {w₁:World} (hR:Rel (PU cx its st₀ ρ w) nt ρ₁ st a₁ w₁) (hk:∀ k x,kept its st₀ k=true->st₀.σ k=some x->st.σ k=some (lock x)) :
  Rel cx nt ρ₁ (unS its st₀ st) a₁ w₁:=by
 have un_some:∀ {k:Nat} {x:bL},(unS its st₀ st).σ k=some x->∃ x',st.σ k=some x'/\lock x'=lock x/\((kept its st₀ k=true/\st₀.σ k=some x)\/x'=x):=by
  intro k x h;simp only[unS] at h;split at h
  ·rename_i hke;exact ⟨_,hk k x hke h,C2 x,.inl ⟨hke,h⟩⟩
  ·exact ⟨x,h,rfl,.inr rfl⟩
 have un_of:∀ {k:Nat} {x:bL},st.σ k=some x->∃ x',(unS its st₀ st).σ k=some x':=by
  intro k x h;simp only[unS];split
  ·rename_i hke;obtain ⟨_,x0,h0,_⟩:=nB hke;exact ⟨x0,h0⟩
  ·exact ⟨x,h⟩
 have ho:bY cx ρ₁ (unS its st₀ st).σ=bY (PU cx its st₀ ρ w) ρ₁ st.σ:=by
  funext b
  simp only[bY,eq_iff_iff];refine or_congr Iff.rfl ⟨λ⟨k,l,x,h1,h2⟩=>?_,λ⟨k,l,x,h1,h2⟩=>?_⟩
  ·obtain ⟨x',h',_⟩:=un_some h1;exact ⟨k,l,x',h',h2⟩
  ·obtain ⟨x',h'⟩:=un_of h1;exact ⟨k,l,x',h',h2⟩
 have ho0:bY (PU cx its st₀ ρ w) ρ (YP its st₀).σ=bY cx ρ st₀.σ:=BBP _ rfl;have hkp:=hR.keeps;have hk1:bZ cx ρ ρ₁ st₀.σ (unS its st₀ st).σ w w₁:=by
  refine ⟨λb hb hlt=>hkp.cell b (by show ¬ bY (PU cx its st₀ ρ w) ρ (YP its st₀).σ b;rw[ho0];exact hb) hlt,hkp.size,λb hb hn=>?_,hkp.loc,hkp.shape,λk x hx hw=>?_⟩
  ·rw[ho];exact hkp.own b hb (by show ¬ bY (PU cx its st₀ ρ w) ρ (YP its st₀).σ b;rw[ho0];exact hn)
  ·obtain ⟨l,hl,_⟩:=hR0.inv.boxes k x hx;have hke:=I2 (its:=its) (hR0.inv.new k l hl).1 hx hw;exact ⟨x,by simp only[unS,hke,hx],hw⟩
 refine ⟨⟨λk x hx=>?_,λk k' x x' l l' h1 h2=>?_,hR.inv.new,λk x l hx hl hL hw=>?_,hR.inv.below,hR.inv.nC,hR.inv.low⟩,hR.nt,hR.defers,hR0.keeps.trans' hk1,hR.yB,λi=>?_⟩
 ·obtain ⟨x',h',h1,_⟩:=un_some hx;obtain ⟨l,hl,hb⟩:=hR.inv.boxes k x' h';rw[ho];exact ⟨l,hl,hb.AEX h1⟩
 ·obtain ⟨y1,g1,_⟩:=un_some h1;obtain ⟨y2,g2,_⟩:=un_some h2;exact hR.inv.inj k k' y1 y2 l l' g1 g2
 ·obtain ⟨x',h',h1,h2⟩:=un_some hx;rcases h2 with ⟨hke,h0⟩|rfl
  ·obtain ⟨l0,hl0,_⟩:=hR0.inv.boxes k x h0;have:=hkp.loc k l0 hl0;rw[hl] at this;cases this;exact hR0.inv.uQ k x l h0 hl0 hL hw
  ·exact hR.inv.uQ k x' l h' hl hL hw
 ·rw[ho];exact hR.uD i
end
end Go.Pv
