/-
  The symbolic executor, part e: from a state to what is known where ways come together.
-/
import Derived.Test.YtjledgajjgkbhaaGreatDoorVapkd
set_option linter.defProp false
set_option linter.unusedSimpArgs false
namespace Go.Pv
open Go Go.RowKit
section
variable {n : Nat} {st₀ st : St}
theorem fU {τ:Nat→Option bB} {π:Nat→Nat→Bool} {sr:List (Option Nat)} {f:Nat→List D→List D} {k:Nat} {x:bB} (hbb:∀ k x,st₀.σ k=some x→UF n x) (hf:∀ cells base,st.σ k=some (.rows false [cells])→AV3 π n k sr cells base (f k base)):∀ {its:List It} {y:G6.den its},wU n τ π sr st₀ st its y→lP f st₀ its y k=some x→AY its k=true∧∃ x',st.σ k=some x'∧AV n τ sr st x' x
 | [],_,_,h=>by simp[lP] at h
 | .val _ _ _::l,y,hy,h=>fU hbb hf (its:=l) hy.2 h
 | .own _ _ _::l,y,hy,h=>fU hbb hf (its:=l) hy.2 h
 | .box k' r::l,y,hy,h=>by
  simp only[lP] at h
  split at h
  ·rename_i e
   have e:k=k':=by simpa using e
   subst e
   cases h
   obtain ⟨cells,ts,h1,h2,h3⟩:=hy.1
   exact ⟨by simp[AY],_,h1,AGX h2 h3 (hf _ _ h1)⟩
  ·obtain ⟨h1,h2⟩:=fU hbb hf hy.2 h
   exact ⟨by simp[AY,h1],h2⟩
 | .map k' kr ag r::l,y,hy,h=>by
  simp only[lP] at h
  split at h
  ·rename_i e
   have e:k=k':=by simpa using e
   subst e
   cases h
   exact ⟨by simp[AY],hy.1⟩
  ·obtain ⟨h1,h2⟩:=fU hbb hf hy.2 h
   exact ⟨by simp[AY,h1],h2⟩
 | .kT k'::l,y,hy,h=>by
  simp only[lP] at h
  split at h
  ·rename_i e
   have e:k=k':=by simpa using e
   subst e
   cases h
   exact ⟨by simp[AY],hy.1⟩
  ·obtain ⟨h1,h2⟩:=fU hbb hf hy.2 h
   exact ⟨by simp[AY,h1],h2⟩
 | .nJ k' m::l,y,hy,h=>by
  simp only[lP] at h
  split at h
  ·rename_i e
   have e:k=k':=by simpa using e
   subst e
   cases h
   exact ⟨by simp[AY],hy.1⟩
  ·obtain ⟨h1,h2⟩:=fU hbb hf hy.2 h
   exact ⟨by simp[AY,h1],h2⟩
 | .fix k'::l,y,hy,h=>by
  simp only[lP] at h
  split at h
  ·rename_i e
   have e:k=k':=by simpa using e
   subst e
   obtain ⟨x',h1,h2,h3⟩:=hy.1
   rw[h2] at h;cases h
   exact ⟨by simp[AY],_,h1,fun cx m w own' ρ ρ' l hρ _ hz hb=>hb.cut hρ hz.sub (hbb _ _ h2),h3⟩
  ·obtain ⟨h1,h2⟩:=fU hbb hf hy.2 h
   exact ⟨by simp[AY,h1],h2⟩
 | .arr k' z r::l,y,hy,h=>by
  simp only[lP] at h
  split at h
  ·rename_i e
   have e:k=k':=by simpa using e
   subst e
   cases h
   exact ⟨by simp[AY],hy.1⟩
  ·obtain ⟨h1,h2⟩:=fU hbb hf hy.2 h
   exact ⟨by simp[AY,h1],h2⟩
 | .cD k'::l,y,hy,h=>by
  simp only[lP] at h
  split at h
  ·rename_i e
   have e:k=k':=by simpa using e
   subst e
   cases h
   exact ⟨by simp[AY],hy.1⟩
  ·obtain ⟨h1,h2⟩:=fU hbb hf hy.2 h
   exact ⟨by simp[AY,h1],h2⟩
 | .drop k'::l,y,hy,h=>by
  simp only[lP] at h
  split at h
  ·cases h
  ·obtain ⟨h1,h2⟩:=fU hbb hf hy.2 h
   exact ⟨by simp[AY,h1],h2⟩
 | .HA _ _ _ _::l,y,hy,h=>fU hbb hf (its:=l) hy.2 h
theorem fL {f:Nat→List D→List D} {k:Nat}:∀ {its:List It} {y:G6.den its},kY its k=true→lP f st₀ its y k=none
 | [],_,h=>by cases h
 | .drop k'::l,y,h=>by
  simp only[lP]
  split
  ·rfl
  ·rename_i e
   rw[kY,e,Bool.false_or] at h
   exact fL h
 | .val _ _ _::l,y,h=>fL (its:=l) h
 | .own _ _ _::l,y,h=>fL (its:=l) h
 | .HA _ _ _ _::l,y,h=>fL (its:=l) h
 | .box k' _::l,y,h=>by
  simp only[kY,Bool.and_eq_true,Bool.not_eq_true'] at h
  simp only[lP,h.1]
  exact fL h.2
 | .map k' _ _ _::l,y,h=>by
  simp only[kY,Bool.and_eq_true,Bool.not_eq_true'] at h
  simp only[lP,h.1]
  exact fL h.2
 | .kT k'::l,y,h=>by
  simp only[kY,Bool.and_eq_true,Bool.not_eq_true'] at h
  simp only[lP,h.1]
  exact fL h.2
 | .nJ k' _::l,y,h=>by
  simp only[kY,Bool.and_eq_true,Bool.not_eq_true'] at h
  simp only[lP,h.1]
  exact fL h.2
 | .fix k'::l,y,h=>by
  simp only[kY,Bool.and_eq_true,Bool.not_eq_true'] at h
  simp only[lP,h.1]
  exact fL h.2
 | .arr k' _ _::l,y,h=>by
  simp only[kY,Bool.and_eq_true,Bool.not_eq_true'] at h
  simp only[lP,h.1]
  exact fL h.2
 | .cD k'::l,y,h=>by
  simp only[kY,Bool.and_eq_true,Bool.not_eq_true'] at h
  simp only[lP,h.1]
  exact fL h.2
def BD3 (st:St) (src:Option Nat) (x:bB):Prop :=
 (∃ k z rows,src=some k∧st.σ k=some (.arr false z rows)∧x = .arr false z (kH rows))∨(src=none∧∃ z,x = .arr false z [])
theorem fV {τ:Nat→Option bB} {π:Nat→Nat→Bool} {sr:List (Option Nat)} {x:bB}:∀ {its:List It} {y:G6.den its} {j:Nat},wU n τ π sr st₀ st its y→DX its y j=some x→∃ src,(jM its st)[j]? = some src∧BD3 st src x
 | [],_,_,_,h=>by simp[DX] at h
 | .own t z r::l,y,0,hy,h=>by
  cases h
  refine ⟨_,rfl,?_⟩
  rcases hy.1 with ⟨k,rows,h1,h2,h3⟩|⟨h1,tt,h2,h3⟩
  ·simp only[h1]
   exact .inl ⟨k,z,rows,rfl,h2,by rw[h3]⟩
  ·simp only[h2]
   exact .inr ⟨rfl,z,by rw[h1];rfl⟩
 | .own t z r::l,y,j+1,hy,h=>fV (its:=l) (j:=j) hy.2 h
 | .val _ _ _::l,y,j,hy,h=>fV (its:=l) hy.2 h
 | .box _ _::l,y,j,hy,h=>fV (its:=l) hy.2 h
 | .map _ _ _ _::l,y,j,hy,h=>fV (its:=l) hy.2 h
 | .kT _::l,y,j,hy,h=>fV (its:=l) hy.2 h
 | .nJ _ _::l,y,j,hy,h=>fV (its:=l) hy.2 h
 | .fix _::l,y,j,hy,h=>fV (its:=l) hy.2 h
 | .arr _ _ _::l,y,j,hy,h=>fV (its:=l) hy.2 h
 | .cD _::l,y,j,hy,h=>fV (its:=l) hy.2 h
 | .drop _::l,y,j,hy,h=>fV (its:=l) hy.2 h
 | .HA k o z r::l,y,0,hy,h=>by
  cases h
  refine ⟨_,rfl,?_⟩
  obtain ⟨cells,c,h1,h2,⟨k',rows,rfl,h3,h4⟩|⟨h3,tt,rfl,h4⟩⟩:=hy.1
  ·simp only[yX,h1,h2]
   exact .inl ⟨k',z,rows,rfl,h3,by rw[h4]⟩
  ·simp only[yX,h1,h2]
   exact .inr ⟨rfl,z,by rw[h3];rfl⟩
 | .HA _ _ _ _::l,y,j+1,hy,h=>fV (its:=l) (j:=j) hy.2 h
theorem gO {τ:Nat→Option bB} {π:Nat→Nat→Bool} {sr:List (Option Nat)} {cx:Cx} {m:Nat} {w:World} {own':Nat→Prop} {ρ ρ':Nat→Option Loc} (hz:AOV τ st cx ρ m w own') {i:Nat} {v:Value} (hv:Rd w (bL cx ρ st.σ) ρ (st.s i) v):∀ {its:List It} {y:G6.den its} {j:Nat},wU n τ π sr st₀ st its y →
  (∀ m src,(jM its st)[m]? = some src→ρ' (n+(j+m))=match src with
   | some k=>ρ k
   | none=>some RI)→Rd w own' ρ' (AO n its y j i) v
 | [],_,_,_,_=>.any v
 | .val t ag r::l,y,j,hy,hρ=>by
  simp only[AO]
  split
  ·rename_i e
   have e:i=t:=by simpa using e
   subst e
   exact .p _ _ (hy.1 _ _ _ _ _ _ hz hv)
  ·exact gO hz hv hy.2 hρ
 | .own t z r::l,y,j,hy,hρ=>by
  simp only[AO]
  split
  ·rename_i e
   have e:i=t:=by simpa using e
   subst e
   have h0:=hρ 0 _ rfl
   rcases hy.1 with ⟨k,rows,h1,h2,h3⟩|⟨h1,tt,h2,h3⟩
   ·rw[h1] at hv
    simp only[h1] at h0
    cases hv with
    | own _ lo hl hL h4 h5=>exact .own _ lo (h0.trans hl) hL h4 h5
    | c0 _ lo a hl hL=>exact .c0 _ lo a (h0.trans hl) hL
   ·rw[h2] at hv
    simp only[h2] at h0
    cases hv with
    | p _ _ hv =>
     obtain ⟨a,rfl⟩:=AD8 hv h3
     exact .c0 _ RI a h0 rfl
  ·refine gO hz hv hy.2 fun m src hm=>?_
   have:=hρ (m+1) src (by simpa [jM] using hm)
   rw[←this]
   congr 1
   omega
 | .box _ _::l,y,j,hy,hρ=>gO (its:=l) hz hv hy.2 hρ
 | .map _ _ _ _::l,y,j,hy,hρ=>gO (its:=l) hz hv hy.2 hρ
 | .kT _::l,y,j,hy,hρ=>gO (its:=l) hz hv hy.2 hρ
 | .nJ _ _::l,y,j,hy,hρ=>gO (its:=l) hz hv hy.2 hρ
 | .fix _::l,y,j,hy,hρ=>gO (its:=l) hz hv hy.2 hρ
 | .arr _ _ _::l,y,j,hy,hρ=>gO (its:=l) hz hv hy.2 hρ
 | .cD _::l,y,j,hy,hρ=>gO (its:=l) hz hv hy.2 hρ
 | .drop _::l,y,j,hy,hρ=>gO (its:=l) hz hv hy.2 hρ
 | .HA _ _ _ _::l,y,j,hy,hρ=>gO (its:=l) hz hv hy.2 fun m src hm=>by
  have:=hρ (m+1) src (by simpa [jM] using hm)
  grind
theorem jH {τ:Nat→Option bB} {π:Nat→Nat→Bool} {sr:List (Option Nat)} {k o:Nat}:∀ {its:List It} {y:G6.den its},wU n τ π sr st₀ st its y→p8 its k o=true→∃ cells c,st.σ k=some (.rows false [cells])∧cells[o]? = some c∧((∃ k',c = .own k')∨∃ tt,c = .p tt∧fK tt=some (true,[]))
 | [],_,_,h=>by cases h
 | .HA k' o' z r::l,y,hy,h=>by
  simp only[p8,Bool.or_eq_true,Bool.and_eq_true,beq_iff_eq] at h
  rcases h with ⟨rfl,rfl⟩|h
  ·obtain ⟨cells,c,h1,h2,⟨k',rows,h3,_⟩|⟨_,tt,h3,h4⟩⟩:=hy.1
   ·exact ⟨cells,c,h1,h2,.inl ⟨k',h3⟩⟩
   ·exact ⟨cells,c,h1,h2,.inr ⟨tt,h3,h4⟩⟩
  ·exact jH (its:=l) hy.2 h
 | .val _ _ _::l,y,hy,h=>jH (its:=l) hy.2 h
 | .own _ _ _::l,y,hy,h=>jH (its:=l) hy.2 h
 | .box _ _::l,y,hy,h=>jH (its:=l) hy.2 h
 | .map _ _ _ _::l,y,hy,h=>jH (its:=l) hy.2 h
 | .kT _::l,y,hy,h=>jH (its:=l) hy.2 h
 | .nJ _ _::l,y,hy,h=>jH (its:=l) hy.2 h
 | .fix _::l,y,hy,h=>jH (its:=l) hy.2 h
 | .arr _ _ _::l,y,hy,h=>jH (its:=l) hy.2 h
 | .cD _::l,y,hy,h=>jH (its:=l) hy.2 h
 | .drop _::l,y,hy,h=>jH (its:=l) hy.2 h
theorem iP {k:Nat} {base:List D}:∀ {its:List It} {j:Nat},(PC n its j k base).length=base.length
 | [],_=>rfl
 | .HA k' o _ _::l,j=>by
  simp only[PC]
  split
  ·rw[List.length_set];exact iP (its:=l)
  ·exact iP (its:=l)
 | .own _ _ _::l,j=>iP (its:=l)
 | .val _ _ _::l,j=>iP (its:=l)
 | .box _ _::l,j=>iP (its:=l)
 | .map _ _ _ _::l,j=>iP (its:=l)
 | .kT _::l,j=>iP (its:=l)
 | .nJ _ _::l,j=>iP (its:=l)
 | .fix _::l,j=>iP (its:=l)
 | .arr _ _ _::l,j=>iP (its:=l)
 | .cD _::l,j=>iP (its:=l)
 | .drop _::l,j=>iP (its:=l)
theorem lK {k i:Nat} {base:List D} {c:D}:∀ {its:List It} {j:Nat},(PC n its j k base)[i]? = some c→(p8 its k i=false∧base[i]? = some c)∨(p8 its k i=true∧∃ m,c = .own (n+(j+m))∧(jM its st)[m]? = some (yX st k i))
 | [],_,h=>.inl ⟨rfl,h⟩
 | .HA k' o z r::l,j,h=>by
  have next:(PC n l (j+1) k base)[i]? = some c→(p8 (.HA k' o z r::l) k i=false∧base[i]? = some c)∨(p8 (.HA k' o z r::l) k i=true∧∃ m,c = .own (n+(j+m))∧(jM (.HA k' o z r::l) st)[m]? = some (yX st k i))∨(k=k'∧i=o):=fun h=>by
   rcases lK (its:=l) h with ⟨h1,h2⟩|⟨h1,m,h2,h3⟩
   ·cases hc:(k == k'&&i == o) with
    | true=>simp only[Bool.and_eq_true,beq_iff_eq] at hc;exact .inr (.inr hc)
    | false=>exact .inl ⟨by simp only[p8,hc,h1,Bool.or_self],h2⟩
   ·exact .inr (.inl ⟨by simp only[p8,h1,Bool.or_true],m+1,by rw[h2];congr 1;omega,by simpa [jM] using h3⟩)
  simp only[PC] at h
  split at h
  ·rename_i e
   have e:k=k':=by simpa using e
   subst e
   rw[List.getElem?_set] at h
   split at h
   ·rename_i e
    subst e
    split at h
    ·cases h
     exact .inr ⟨by simp[p8],0,rfl,rfl⟩
    ·cases h
   ·rcases next h with h|h|h
    ·simp_all
    ·simp_all
    ·omega
  ·simp_all
 | .own _ _ _::l,j,h=>by
  rcases lK (its:=l) (j:=j+1) h with h|⟨h1,m,h2,h3⟩
  ·exact .inl h
  ·exact .inr ⟨h1,m+1,by rw[h2];congr 1;omega,by simpa [jM] using h3⟩
 | .val _ _ _::l,j,h=>lK (its:=l) h
 | .box _ _::l,j,h=>lK (its:=l) h
 | .map _ _ _ _::l,j,h=>lK (its:=l) h
 | .kT _::l,j,h=>lK (its:=l) h
 | .nJ _ _::l,j,h=>lK (its:=l) h
 | .fix _::l,j,h=>lK (its:=l) h
 | .arr _ _ _::l,j,h=>lK (its:=l) h
 | .cD _::l,j,h=>lK (its:=l) h
 | .drop _::l,j,h=>lK (its:=l) h
theorem TV {τ:Nat→Option bB} {its:List It} {y:G6.den its} (hy:wU n τ (p8 its) (jM its st) st₀ st its y) {k:Nat} {cells base:List D} (hc:st.σ k=some (.rows false [cells])):AV3 (p8 its) n k (jM its st) cells base (PC n its 0 k base):=by
 refine ⟨iP,fun i c hi=>?_⟩
 rcases lK (st:=st) hi with h|⟨h1,m,h2,h3⟩
 ·simp_all
 ·refine .inr ⟨h1,m,_,by rw[h2,Nat.zero_add],h3,?_⟩
  obtain ⟨cells',c',g1,g2,g3⟩:=jH hy h1
  rw[hc] at g1
  obtain rfl:cells=cells':=by simpa using g1
  simp only[yX,hc,g2]
  rcases g3 with ⟨k',rfl⟩|⟨tt,rfl,g4⟩
  ·simp
  ·simp_all
theorem x7:∀ {l:List (Option Nat)} {k:Nat},some k∈l→AC6 l k=true
 | [],_,h=>by cases h
 | some a::l,k,h=>by
  simp only[AC6,Bool.or_eq_true,beq_iff_eq]
  rcases List.mem_cons.1 h with h|h
  ·simp_all
  ·exact .inr (x7 h)
 | none::l,k,h=>by
  rcases List.mem_cons.1 h with h|h
  ·cases h
  ·exact x7 (l:=l) h
theorem G8:∀ {l:List (Option Nat)} {i j k:Nat},apart l=true→l[i]? = some (some k)→l[j]? = some (some k)→i=j
 | [],i,_,_,_,h,_=>by simp at h
 | some a::l,i,j,k,ha,hi,hj=>by
  simp only[Go.Pv.apart,Bool.and_eq_true,Bool.not_eq_true'] at ha
  match i,j with
  | 0,0=>rfl
  | i+1,j+1=>simp only[List.getElem?_cons_succ] at hi hj;rw[G8 ha.2 hi hj]
  | 0,j+1 =>
   simp only[List.getElem?_cons_zero,Option.some.injEq] at hi
   simp only[List.getElem?_cons_succ] at hj
   subst hi
   rw[x7 (List.mem_of_getElem? hj)] at ha
   cases ha.1
  | i+1,0 =>
   simp only[List.getElem?_cons_zero,Option.some.injEq] at hj
   simp only[List.getElem?_cons_succ] at hi
   subst hj
   rw[x7 (List.mem_of_getElem? hi)] at ha
   cases ha.1
 | none::l,i,j,k,ha,hi,hj=>by
  match i,j with
  | 0,_=>simp at hi
  | i+1,0=>simp at hj
  | i+1,j+1=>simp only[List.getElem?_cons_succ] at hi hj;rw[G8 (l:=l) ha hi hj]
end
theorem mB {its:List It} {st₀:St} {k:Nat} (h:kept its st₀ k=true):k<st₀.n∧∃ x,st₀.σ k=some x∧gM (lock x)=false∧(gM x=false∨(AY its k=false∧AC6 (jM its st₀) k=false)):=by
 unfold kept at h
 simp only[Bool.and_eq_true,decide_eq_true_eq] at h
 obtain ⟨h1,h2⟩:=h
 refine ⟨h1,?_⟩
 split at h2
 ·rename_i x hx
  refine ⟨x,hx,?_⟩
  simp only[Bool.or_eq_true,Bool.not_eq_true',Bool.and_eq_true] at h2
  rcases h2 with h2|⟨⟨h2,h3⟩,h4⟩
  ·exact ⟨A5Z h2,.inl h2⟩
  ·refine ⟨?_,.inr ⟨h2,h3⟩⟩
   cases x<;>first|rfl|(simp[ADE] at h4)
 ·cases h2
theorem E9 {its:List It} {st₀:St} {k:Nat} {x:bB} (hk:k<st₀.n) (hx:st₀.σ k=some x) (hw:gM x=false):kept its st₀ k=true:=by
 unfold kept
 simp_all
section
variable {cx : Cx} {nt : Nat} {its : List It} {A : Nat → Bool} {st₀ st : St} {y : G6.den its} {ρ : Nat → Option Loc} {a : Act} {w : World}
theorem A4D (hR:Rel cx nt ρ st a w) (hbs:∀ i,A i=false→QS st₀.n (st₀.s i)) (hbb:∀ k x,st₀.σ k=some x→UF st₀.n x) (hbase:∀ k l,cx.ρb k=some l→k<st₀.n)
  (hbro:∀ k x,cx.σb k=some x→gM x=false→kept its st₀ k=true) (hs:∀ i,A i=false→st.s i=st₀.s i)
  (hk:∀ k x,kept its st₀ k=true→st₀.σ k=some x→st.σ k=some (lock x)) (hok:J0 its st₀ st=true) (hy:ALB st₀.n st₀ st its y) :
  ∃ ρ',Rel cx nt ρ' (BF its A st₀ y) a w:=by
 unfold J0 at hok
 simp only[Bool.and_eq_true,List.all_eq_true] at hok
 obtain ⟨⟨hap,hsrc⟩,hmit⟩:=hok
 let ρ':Nat→Option Loc:=fun k=>match decide (k<st₀.n) with
  | true=>ρ k
  | false=>match (jM its st)[k-st₀.n]? with
   | some (some k')=>ρ k'
   | some none=>some RI
   | none=>none
 have hρ:∀ k,k<st₀.n→ρ' k=ρ k:=fun k hk=>by simp only[ρ',decide_eq_true hk]
 have hρo:∀ m src,(jM its st)[m]? = some src→ρ' (st₀.n+m)=match src with
   | some k=>ρ k
   | none=>some RI:=fun m src hm=>by
  have h1:decide (st₀.n+m<st₀.n)=false:=decide_eq_false (by omega)
  simp only[ρ',h1,Nat.add_sub_cancel_left,hm]
  cases src<;>rfl
 have back:∀ k x l,(BF its A st₀ y).σ k=some x→ρ' k=some l→0<l.L+l.C→∃ k' x',st.σ k'=some x'∧ρ k'=some l∧(gM x=true→gM x'=true) ∧
   ((k<st₀.n∧k'=k)∨(st₀.n≤k∧(jM its st)[k-st₀.n]? = some (some k')∧∃ z rows,x' = .arr false z rows))∧(k<st₀.n→kept its st₀ k=false→AY its k=true∧AV st₀.n (AK1 its st₀ st) (jM its st) st x' x):=by
  intro k x l hx hl hL
  by_cases hlt:k<st₀.n
  ·simp only[BF,decide_eq_true hlt] at hx
   rw[hρ k hlt] at hl
   cases hke:kept its st₀ k with
   | true =>
    rw[hke] at hx
    obtain ⟨_,x0,h0,h1,_⟩:=mB hke
    simp only[h0,Option.map_some,Option.some.injEq] at hx
    subst hx
    exact ⟨k,_,hk k x0 hke h0,hl,fun h=>h,.inl ⟨hlt,rfl⟩,fun _ h=>by cases h⟩
   | false =>
    rw[hke] at hx
    obtain ⟨hc,x',h1,h2⟩:=fU hbb (fun cells base hc=>TV hy hc) hy hx
    exact ⟨k,x',h1,hl,fun _=>h2.wr,.inl ⟨hlt,rfl⟩,fun _ _=>⟨hc,h2⟩⟩
  ·simp only[BF,decide_eq_false hlt] at hx
   obtain ⟨src,h1,h2⟩:=fV hy hx
   have h3:=hρo (k-st₀.n) src h1
   rw[show st₀.n+(k-st₀.n)=k by omega,hl] at h3
   rcases h2 with ⟨k',z,rows,rfl,h4,h5⟩|⟨rfl,z,h5⟩
   ·refine ⟨k',_,h4,h3.symm,fun _=>rfl,.inr ⟨by omega,h1,z,rows,rfl⟩,fun h=>absurd h hlt⟩
   ·simp only[Option.some.injEq] at h3
    rw[h3] at hL
    exact absurd hL (by simp[RI])
 have hown:∀ b,bL cx ρ' (BF its A st₀ y).σ b→bL cx ρ st.σ b:=by
  intro b hb
  rcases hb with hb|⟨k,l,x,h1,h2,h3,h4⟩
  ·exact .inl hb
  ·obtain ⟨k',x',g1,g2,_⟩:=back k x l h1 h2 h3
   exact .inr ⟨k',l,x',g1,g2,h3,h4⟩
 have hz:AOV (AK1 its st₀ st) st cx ρ st.n w (bL cx ρ' (BF its A st₀ y).σ):=by
  have tau:∀ k x,AK1 its st₀ st k=some x→AZI its st₀ st k=true∧st.σ k=some x:=fun k x h=>by
   unfold AK1 at h
   grind
  refine ⟨hR.inv,hown,fun k x h=>(tau k x h).2,fun k x l hx hl hL hb=>?_⟩
  obtain ⟨hg,hx⟩:=tau k x hx
  unfold AZI at hg
  simp only[Bool.and_eq_true,Bool.or_eq_true,decide_eq_true_eq,Bool.not_eq_true'] at hg
  rcases hb with hb|⟨k1,l1,x1,h1,h2,h3,h4⟩
  ·exact ((hR.inv.new k l hl).2 hL).2 hb
  ·obtain ⟨k',x',g1,g2,_,g4,_⟩:=back k1 x1 l1 h1 h2 h3
   have hk':k'=k:=hR.inv.inj k' k x' x l1 l g1 hx g2 hl h3 hL h4
   subst hk'
   rcases g4 with ⟨g5,rfl⟩|⟨_,g5,_⟩
   ·rcases hg.1 with h5|⟨h5,h6⟩
    ·omega
    ·have:(BF its A st₀ y).σ k'=none:=by
      simp only[BF,decide_eq_true g5,h5]
      exact fL h6
     simp_all
   ·rw[x7 (List.mem_of_getElem? g5)] at hg
    cases hg.2
 have hdom:∀ k l,ρ' k=some l→k<st₀.n+wQ its:=by
  intro k l hl
  by_cases hlt:k<st₀.n
  ·omega
  ·have h1:decide (k<st₀.n)=false:=decide_eq_false hlt
   simp only[ρ',h1] at hl
   have:k-st₀.n<(jM its st).length:=by
    rcases Nat.lt_or_ge (k-st₀.n) (jM its st).length with h|h
    ·exact h
    ·simp_all
   rw[jN] at this
   omega
 have hlook:∀ k l,ρ' k=some l→0<l.L+l.C→∃ k',ρ k'=some l:=by
  intro k l hl hL
  by_cases hlt:k<st₀.n
  ·exact ⟨k,(hρ k hlt).symm.trans hl⟩
  ·have h1:decide (k<st₀.n)=false:=decide_eq_false hlt
   simp only[ρ',h1] at hl
   split at hl
   ·exact ⟨_,hl⟩
   ·cases hl;exact absurd hL (by simp[RI])
   ·cases hl
 have hbox:∀ k x,(BF its A st₀ y).σ k=some x→∃ l,ρ' k=some l∧fF w (bL cx ρ' (BF its A st₀ y).σ) ρ' l x:=by
  intro k x hx
  by_cases hlt:k<st₀.n
  ·simp only[BF,decide_eq_true hlt] at hx
   cases hke:kept its st₀ k with
   | true =>
    rw[hke] at hx
    obtain ⟨_,x0,h0,h1,_⟩:=mB hke
    simp only[h0,Option.map_some,Option.some.injEq] at hx
    subst hx
    obtain ⟨l,hl,hb⟩:=hR.inv.boxes k _ (hk k x0 hke h0)
    refine ⟨l,(hρ k hlt).trans hl,?_⟩
    have hb0:fF w (bL cx ρ st.σ) ρ l x0:=hb.W9 (zK x0)
    exact (hb0.cut hρ hown (hbb k x0 h0)).W9 (zK x0).symm
   | false =>
    rw[hke] at hx
    obtain ⟨hc,x',h1,h2⟩:=fU hbb (fun cells base hc=>TV hy hc) hy hx
    obtain ⟨l,hl,hb⟩:=hR.inv.boxes k _ h1
    exact ⟨l,(hρ k hlt).trans hl,h2.ok _ _ _ _ _ _ _ hρ hρo hz hb⟩
  ·simp only[BF,decide_eq_false hlt] at hx
   obtain ⟨src,h1,h2⟩:=fV hy hx
   have h3:=hρo (k-st₀.n) src h1
   rw[show st₀.n+(k-st₀.n)=k by omega] at h3
   rcases h2 with ⟨k',z,rows,rfl,h4,rfl⟩|⟨rfl,z,rfl⟩
   ·obtain ⟨l,hl,hb⟩:=hR.inv.boxes k' _ h4
    exact ⟨l,h3.trans hl,NF hown hb⟩
   ·exact ⟨RI,h3,fun h=>by simp[RI] at h,fun _=>⟨_,_,rfl⟩⟩
 have hinj:∀ k k' x x' l l',(BF its A st₀ y).σ k=some x→(BF its A st₀ y).σ k'=some x'→ρ' k=some l→ρ' k'=some l'→0<l.L+l.C→0<l'.L+l'.C→l.bJ=l'.bJ→k=k':=by
  intro k k' x x' l l' h1 h2 h3 h4 h5 h6 h7
  obtain ⟨q,u,a1,a2,a3,a4,a5⟩:=back k x l h1 h3 h5
  obtain ⟨q',u',b1,b2,b3,b4,b5⟩:=back k' x' l' h2 h4 h6
  have hq:q=q':=hR.inv.inj q q' u u' l l' a1 b1 a2 b2 h5 h6 h7
  subst hq
  rw[a1] at b1;cases b1
  have mixed:∀ (k k':Nat) (x:bB),(k<st₀.n∧q=k)→(st₀.n≤k'∧(jM its st)[k'-st₀.n]? = some (some q)∧∃ z rows,u = .arr false z rows)→(k<st₀.n→kept its st₀ k=false→AY its k=true∧AV st₀.n (AK1 its st₀ st) (jM its st) st u x)→False:=by
   intro k k' x hA hB hC
   obtain ⟨_,hB1,z,rows,hB2⟩:=hB
   have:=hsrc (some q) (List.mem_of_getElem? hB1)
   simp_all
  rcases a4 with a4|a4<;>rcases b4 with b4|b4
  ·omega
  ·exact (mixed k k' x a4 b4 a5).elim
  ·exact (mixed k' k x' b4 a4 b5).elim
  ·have:=G8 hap a4.2.1 b4.2.1
   omega
 refine ⟨ρ',⟨hbox,hinj,fun k l hl=>⟨hdom k l hl,fun hL=>?_⟩,fun k x l hx hl hL hw=>?_,hR.inv.below,hR.inv.jY,hR.inv.low⟩,hR.nt,hR.defers,
  ⟨hR.keeps.cell,hR.keeps.size,fun b hb hn hc=>hR.keeps.own b hb hn (hown b hc),fun k l hl=>(hρ k (hbase k l hl)).trans (hR.keeps.loc k l hl),hR.keeps.shape,fun k x hx hw=>?_⟩,hR.oW,fun i=>?_⟩
 ·obtain ⟨k',hk'⟩:=hlook k l hl hL
  exact (hR.inv.new k' l hk').2 hL
 ·obtain ⟨k',x',g1,g2,g3,_⟩:=back k x l hx hl hL
  exact hR.inv.q7 k' x' l g1 g2 hL (g3 hw)
 ·have hke:=hbro k x hx hw
  obtain ⟨hlt,x0,h0,h1,_⟩:=mB hke
  exact ⟨lock x0,by simp only[BF,decide_eq_true hlt,hke,h0,Option.map_some],h1⟩
 ·have hv:=hR.nD i
  cases hA:A i with
  | false =>
   have e:(BF its A st₀ y).s i=st₀.s i:=by simp only[BF,hA]
   rw[e]
   rw[hs i hA] at hv
   exact hv.cut hρ hown (hbs i hA)
  | true =>
   have e:(BF its A st₀ y).s i=AO st₀.n its y 0 i:=by simp only[BF,hA]
   rw[e]
   refine gO (n:=st₀.n) (ρ:=ρ) hz hv hy fun m src hm=>?_
   simp_all
def KJ (cx:Cx) (its:List It) (st₀:St) (ρ:Nat→Option Loc) (w:World):Cx:=⟨cx.P,cx.own,cx.w0,ρ,(RD its st₀).σ,w,cx.arg⟩
theorem FB {k:Nat} {x:bB} (h:(RD its st₀).σ k=some x):∃ x0,st₀.σ k=some x0∧lock x=lock x0∧(gM x=true→x=x0):=by
 simp only[RD] at h
 split at h
 ·rename_i hke
  obtain ⟨_,x0,h0,h1,_⟩:=mB hke
  simp only[h0,Option.map_some,Option.some.injEq] at h
  subst h
  exact ⟨x0,h0,zK x0,fun h=>by rw[h1] at h;cases h⟩
 ·simp_all
theorem BEU {k:Nat} {x:bB} (h:st₀.σ k=some x):∃ x',(RD its st₀).σ k=some x':=by
 simp only[RD]
 split
 ·simp_all
 ·simp_all
theorem AZ2 (cx':Cx) (ho:cx'.own=cx.own):bL cx' ρ (RD its st₀).σ=bL cx ρ st₀.σ:=by
 funext b
 simp only[bL,ho,eq_iff_iff]
 refine or_congr Iff.rfl ⟨fun ⟨k,l,x,h1,h2⟩=>?_,fun ⟨k,l,x,h1,h2⟩=>?_⟩
 ·obtain ⟨x0,h0,_⟩:=FB h1
  exact ⟨k,l,x0,h0,h2⟩
 ·obtain ⟨x',h'⟩:=BEU (its:=its) h1
  exact ⟨k,l,x',h',h2⟩
theorem AZ3 (hR:Rel cx nt ρ st₀ a w):Rel (KJ cx its st₀ ρ w) nt ρ (RD its st₀) a w:=by
 have ho:bL (KJ cx its st₀ ρ w) ρ (RD its st₀).σ=bL cx ρ st₀.σ:=AZ2 _ rfl
 refine ⟨⟨fun k x hx=>?_,fun k k' x x' l l' h1 h2=>?_,hR.inv.new,fun k x l hx hl hL hw=>?_,hR.inv.below,hR.inv.jY,hR.inv.low⟩,hR.nt,hR.defers,?_,hR.oW,fun i=>?_⟩
 ·obtain ⟨x0,h0,h1,_⟩:=FB hx
  obtain ⟨l,hl,hb⟩:=hR.inv.boxes k x0 h0
  rw[ho]
  exact ⟨l,hl,hb.W9 h1.symm⟩
 ·obtain ⟨x0,h0,_⟩:=FB h1
  obtain ⟨x0',h0',_⟩:=FB h2
  exact hR.inv.inj k k' x0 x0' l l' h0 h0'
 ·obtain ⟨x0,h0,h1,h2⟩:=FB hx
  have:=h2 hw
  subst this
  exact hR.inv.q7 k x l h0 hl hL hw
 ·exact ⟨fun _ _ _=>rfl,Nat.le_refl _,fun _ _ h=>h,fun _ _ h=>h,fun _ _ h=>h,fun k x hx hw=>⟨x,hx,hw⟩⟩
 ·rw[ho];exact hR.nD i
theorem AK2 (hR0:Rel cx nt ρ st₀ a w) {ρ₁:Nat→Option Loc} {a₁:Act} {w₁:World} (hR:Rel (KJ cx its st₀ ρ w) nt ρ₁ st a₁ w₁) (hk:∀ k x,kept its st₀ k=true→st₀.σ k=some x→st.σ k=some (lock x)) :
  Rel cx nt ρ₁ (YT its st₀ st) a₁ w₁:=by
 have un_some:∀ {k:Nat} {x:bB},(YT its st₀ st).σ k=some x→∃ x',st.σ k=some x'∧lock x'=lock x∧((kept its st₀ k=true∧st₀.σ k=some x)∨x'=x):=by
  intro k x h
  simp only[YT] at h
  split at h
  ·rename_i hke
   exact ⟨_,hk k x hke h,zK x,.inl ⟨hke,h⟩⟩
  ·exact ⟨x,h,rfl,.inr rfl⟩
 have un_of:∀ {k:Nat} {x:bB},st.σ k=some x→∃ x',(YT its st₀ st).σ k=some x':=by
  intro k x h
  simp only[YT]
  split
  ·rename_i hke
   obtain ⟨_,x0,h0,_⟩:=mB hke
   exact ⟨x0,h0⟩
  ·exact ⟨x,h⟩
 have ho:bL cx ρ₁ (YT its st₀ st).σ=bL (KJ cx its st₀ ρ w) ρ₁ st.σ:=by
  funext b
  simp only[bL,eq_iff_iff]
  refine or_congr Iff.rfl ⟨fun ⟨k,l,x,h1,h2⟩=>?_,fun ⟨k,l,x,h1,h2⟩=>?_⟩
  ·obtain ⟨x',h',_⟩:=un_some h1
   exact ⟨k,l,x',h',h2⟩
  ·obtain ⟨x',h'⟩:=un_of h1
   exact ⟨k,l,x',h',h2⟩
 have ho0:bL (KJ cx its st₀ ρ w) ρ (RD its st₀).σ=bL cx ρ st₀.σ:=AZ2 _ rfl
 have hkp:=hR.keeps
 have hk1:bO cx ρ ρ₁ st₀.σ (YT its st₀ st).σ w w₁:=by
  refine ⟨fun b hb hlt=>hkp.cell b (by show ¬ bL (KJ cx its st₀ ρ w) ρ (RD its st₀).σ b;rw[ho0];exact hb) hlt,hkp.size,fun b hb hn=>?_,hkp.loc,hkp.shape,fun k x hx hw=>?_⟩
  ·rw[ho]
   exact hkp.own b hb (by show ¬ bL (KJ cx its st₀ ρ w) ρ (RD its st₀).σ b;rw[ho0];exact hn)
  ·obtain ⟨l,hl,_⟩:=hR0.inv.boxes k x hx
   have hke:=E9 (its:=its) (hR0.inv.new k l hl).1 hx hw
   exact ⟨x,by simp only[YT,hke,hx],hw⟩
 refine ⟨⟨fun k x hx=>?_,fun k k' x x' l l' h1 h2=>?_,hR.inv.new,fun k x l hx hl hL hw=>?_,hR.inv.below,hR.inv.jY,hR.inv.low⟩,hR.nt,hR.defers,hR0.keeps.trans' hk1,hR.oW,fun i=>?_⟩
 ·obtain ⟨x',h',h1,_⟩:=un_some hx
  obtain ⟨l,hl,hb⟩:=hR.inv.boxes k x' h'
  rw[ho]
  exact ⟨l,hl,hb.W9 h1⟩
 ·obtain ⟨y1,g1,_⟩:=un_some h1
  obtain ⟨y2,g2,_⟩:=un_some h2
  exact hR.inv.inj k k' y1 y2 l l' g1 g2
 ·obtain ⟨x',h',h1,h2⟩:=un_some hx
  rcases h2 with ⟨hke,h0⟩|rfl
  ·obtain ⟨l0,hl0,_⟩:=hR0.inv.boxes k x h0
   have:=hkp.loc k l0 hl0
   rw[hl] at this
   cases this
   exact hR0.inv.q7 k x l h0 hl0 hL hw
  ·exact hR.inv.q7 k x' l h' hl hL hw
 ·rw[ho];exact hR.nD i
end
end Go.Pv
