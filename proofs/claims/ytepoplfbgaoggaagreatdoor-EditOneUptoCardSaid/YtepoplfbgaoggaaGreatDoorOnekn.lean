/-
  How one reasons about maps with keys that are strings: only what a key leads to.
-/
import Derived.Test.YtepoplfbgaoggaaGreatDoorOnekm
set_option linter.defProp false
set_option linter.unusedSimpArgs false
set_option linter.unusedVariables false
namespace Go.Pv
open Go Go.RowKit Go.MapKept
def W9 (a b:iII):Instr.sameNow .string (.string a) (.string b)=some (decide (a=b)):=by
 by_cases h:a=b
 ·subst h;rw[ai rfl];simp only[Instr.sameNow,Option.some.injEq];exact (bytes_beq _ _).2 rfl
 ·rw[aj h];simp only[Instr.sameNow,Option.some.injEq];exact Bool.eq_false_iff.2 λh'=>h ((bytes_beq _ _).1 h')
abbrev eS (r:Sy):=dC .str false r
section
variable {r : Sy}
def FB {k:iII}:∀ {es:List (iII×r.den)} {i:Nat},(∀ e∈es,e.1≠k)->findD .string (.string k) (List.map (eS r) es) i=some none
 | [],_,_=>rfl
 | e::es,i,h=>by
  show (match Instr.sameNow .string (.string k) (.string e.1) with|some true=>_|some false=>_|none=>_)=_;rw[W9,aj (λh'=>h e (by simp) h'.symm)];exact FB λe' he'=>h e' (by simp[he'])
def TX {k:iII}:∀ {es:List (iII×r.den)} {i j:Nat} (hj:j<es.length),es[j].1=k->(∀ q (hq:q<j),es[q].1≠k)->findD .string (.string k) (List.map (eS r) es) i=some (some (i+j,.p (aH false r es[j].2)))
 | e::es,i,0,_,he,_=>by
  show (match Instr.sameNow .string (.string k) (.string e.1) with|some true=>_|some false=>_|none=>_)=_;rw[W9,ai (by simpa using he.symm)];rfl
 | e::es,i,j+1,hj,he,hp=>by
  have hj':j<es.length:=by simpa using hj
  have hne:e.1≠k:=hp 0 (by omega);show (match Instr.sameNow .string (.string k) (.string e.1) with|some true=>_|some false=>_|none=>_)=_;rw[W9,aj (λh=>hne h.symm)];have:=TX (i:=i+1) hj' (by simpa using he) (λq hq=>by have:=hp (q+1) (by omega);simpa using this);rw[show i+1+j=i+(j+1) by omega] at this;exact this
def kG {α:Type}:List (iII×α)->iII->Option α
 | [],_=>none
 | e::es,k=>if e.1=k then some e.2 else kG es k
def zR {α:Type}:List (iII×α)->iII->α->List (iII×α)
 | [],k,v=>[(k,v)]
 | e::es,k,v=>if e.1=k then (k,v)::es else e::zR es k v
def BH {α:Type} (k:iII) (v:α) (k':iII):∀ (es:List (iII×α)),kG (zR es k v) k'=if k=k' then some v else kG es k'
 | []=>by simp only[zR,kG]
 | e::es=>by
  simp only[zR];by_cases h:e.1=k
  ·simp only[h,if_true,kG];by_cases h2:k=k'
   ·simp[h2]
   ·simp[h2]
  ·simp only[h,if_false,kG,BH k v k' es];by_cases h2:e.1=k'
   ·rw[if_pos h2,if_pos h2,if_neg λe':k=k'=>h (h2.trans e'.symm)]
   ·rw[if_neg h2,if_neg h2]
def yA {α:Type} (k:iII):∀ (es:List (iII×α)),(kG es k=none/\∀ e∈es,e.1≠k)\/∃ j,∃ hj:j<es.length,es[j].1=k/\(∀ q (hq:q<j),es[q].1≠k)/\kG es k=some es[j].2
 | []=>.inl ⟨rfl,by simp⟩
 | e::es=>by
  by_cases h:e.1=k
  ·exact .inr ⟨0,by simp,by simpa using h,λq hq=>by omega,by simp[kG,h]⟩
  ·rcases yA k es with ⟨h1,h2⟩|⟨j,hj,h1,h2,h3⟩
   ·refine .inl ⟨by simp[kG,h,h1],λx hx=>?_⟩;rcases List.mem_cons.1 hx with rfl|hx
    ·exact h
    ·exact h2 x hx
   ·refine .inr ⟨j+1,by simpa using hj,by simpa using h1,λq hq=>?_,by simp[kG,h,h3]⟩
    match q with
    | 0=>simpa using h
    | q+1=>have:=h2 q (by omega);simpa using this
def ZY {α:Type} {k:iII} {v:α}:∀ {es:List (iII×α)},(∀ e∈es,e.1≠k)->zR es k v=es++[(k,v)]
 | [],_=>rfl
 | e::es,h=>by
  simp only[zR,h e (by simp),if_false,List.cons_append];rw[ZY λx hx=>h x (by simp[hx])]
def AVA {α:Type} {k:iII} {v:α}:∀ {es:List (iII×α)} {j:Nat} (hj:j<es.length),es[j].1=k->(∀ q (hq:q<j),es[q].1≠k)->zR es k v=es.set j (k,v)
 | e::es,0,_,he,_=>by
  have:e.1=k:=by simpa using he
  simp[zR,this]
 | e::es,j+1,hj,he,hp=>by
  have hne:e.1≠k:=hp 0 (by omega);simp only[zR,hne,if_false,List.set_cons_succ];rw[AVA (by simpa using hj) (by simpa using he) λq hq=>by have:=hp (q+1) (by omega);simpa using this]
def HC {es:List (iII×r.den)} {k:iII} {A:Prop} {B:Nat->r.den->Prop} (hA:kG es k=none->A) (hB:∀ i v,kG es k=some v->B i v):jC .string (.string k) (List.map (eS r) es) false r A B:=by
 rcases yA k es with ⟨h1,h2⟩|⟨j,hj,h1,h2,h3⟩
 ·exact .inl ⟨FB h2,hA h1⟩
 ·exact .inr ⟨0+j,es[j].2,TX hj h1 h2,hB _ _ h3⟩
def BHK {r:Sy} (h:r.atom=true) (e:iII×r.den):ACW (eS r e)=eS r e:=by
 cases r<;>first|rfl|cases h
def pK {r:Sy} (h:r.atom=true) (es:List (iII×r.den)) (K:List (iII×r.den)->Prop) (hk:K es):fA .str false r (List.map (eS r) es) K :=
 ⟨es,by rw[List.map_map];exact List.map_congr_left λe _=>BHK h e,hk⟩
def BBG {r:Sy} (h:r.atom=true) {es:List (iII×r.den)} {k:iII} {v:r.den} {K:List (iII×r.den)->Prop} (hK:K (zR es k v)) :
  qQ (Option (Nat×D)) (findD .string (.string k) (List.map (eS r) es) 0) λy=>fA .str false r (gB (List.map (eS r) es) y (.string k) (D.p (aH false r v))) K:=by
 rcases yA k es with ⟨h1,h2⟩|⟨j,hj,h1,h2,h3⟩
 ·refine ⟨_,FB h2,?_⟩;rw[ZY h2] at hK;rw[show gB (List.map (eS r) es) none (.string k) (D.p (aH false r v))=List.map (eS r) (es++[(k,v)]) by simp only[gB,List.map_append,List.map_cons,List.map_nil];rfl];exact pK h _ _ hK
 ·refine ⟨_,TX hj h1 h2,?_⟩;rw[AVA hj h1 h2] at hK;rw[show gB (List.map (eS r) es) (some (0+j,D.p (aH false r es[j].2))) (.string k) (D.p (aH false r v))=List.map (eS r) (es.set j (k,v)) by simp only[gB,Nat.zero_add,List.map_set];rfl];exact pK h _ _ hK
end
end Go.Pv
