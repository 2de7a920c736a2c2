/-
  How one reasons about maps with keys that are strings: only what a key leads to.
-/
import Derived.Test.YtipdohmdckdoeaaGreatDoorVfkm
set_option linter.defProp false
set_option linter.unusedSimpArgs false
set_option linter.unusedVariables false
namespace Go.Pv
open Go Go.RowKit Go.MapKept
def P3 (a b:iII):Instr.sameNow .string (.string a) (.string b)=some (decide (a=b)):=by
 by_cases h:a=b
 ·subst h;rw[ai rfl];simp only[Instr.sameNow,Option.some.injEq];exact (bytes_beq _ _).2 rfl
 ·rw[aj h];simp only[Instr.sameNow,Option.some.injEq];exact Bool.eq_false_iff.2 λh'=>h ((bytes_beq _ _).1 h')
abbrev eS (r:Sy):=cG .str false r
section
variable {r : Sy}
def B9 {k:iII}:∀ {es:List (iII×r.den)} {i:Nat},(∀ e∈es,e.1≠k)->findD .string (.string k) (List.map (eS r) es) i=some none
 | [],_,_=>rfl
 | e::es,i,h=>by
  show (match Instr.sameNow .string (.string k) (.string e.1) with|some true=>_|some false=>_|none=>_)=_;rw[P3,aj (λh'=>h e (by simp) h'.symm)];exact B9 λe' he'=>h e' (by simp[he'])
def NW {k:iII}:∀ {es:List (iII×r.den)} {i j:Nat} (hj:j<es.length),es[j].1=k->(∀ q (hq:q<j),es[q].1≠k)->findD .string (.string k) (List.map (eS r) es) i=some (some (i+j,.p (aF false r es[j].2)))
 | e::es,i,0,_,he,_=>by
  show (match Instr.sameNow .string (.string k) (.string e.1) with|some true=>_|some false=>_|none=>_)=_;rw[P3,ai (by simpa using he.symm)];rfl
 | e::es,i,j+1,hj,he,hp=>by
  have hj':j<es.length:=by simpa using hj
  have hne:e.1≠k:=hp 0 (by omega);show (match Instr.sameNow .string (.string k) (.string e.1) with|some true=>_|some false=>_|none=>_)=_;rw[P3,aj (λh=>hne h.symm)];have:=NW (i:=i+1) hj' (by simpa using he) (λq hq=>by have:=hp (q+1) (by omega);simpa using this);rw[show i+1+j=i+(j+1) by omega] at this;exact this
def fH {α:Type}:List (iII×α)->iII->Option α
 | [],_=>none
 | e::es,k=>if e.1=k then some e.2 else fH es k
def nM {α:Type}:List (iII×α)->iII->α->List (iII×α)
 | [],k,v=>[(k,v)]
 | e::es,k,v=>if e.1=k then (k,v)::es else e::nM es k v
def x5 {α:Type} (k:iII) (v:α) (k':iII):∀ (es:List (iII×α)),fH (nM es k v) k'=if k=k' then some v else fH es k'
 | []=>by simp only[nM,fH]
 | e::es=>by
  simp only[nM];by_cases h:e.1=k
  ·simp only[h,if_true,fH];by_cases h2:k=k'
   ·simp[h2]
   ·simp[h2]
  ·simp only[h,if_false,fH,x5 k v k' es];by_cases h2:e.1=k'
   ·rw[if_pos h2,if_pos h2,if_neg λe':k=k'=>h (h2.trans e'.symm)]
   ·rw[if_neg h2,if_neg h2]
def q9 {α:Type} (k:iII):∀ (es:List (iII×α)),(fH es k=none/\∀ e∈es,e.1≠k)\/∃ j,∃ hj:j<es.length,es[j].1=k/\(∀ q (hq:q<j),es[q].1≠k)/\fH es k=some es[j].2
 | []=>.inl ⟨rfl,by simp⟩
 | e::es=>by
  by_cases h:e.1=k
  ·exact .inr ⟨0,by simp,by simpa using h,λq hq=>by omega,by simp[fH,h]⟩
  ·rcases q9 k es with ⟨h1,h2⟩|⟨j,hj,h1,h2,h3⟩
   ·refine .inl ⟨by simp[fH,h,h1],λx hx=>?_⟩;rcases List.mem_cons.1 hx with rfl|hx
    ·exact h
    ·exact h2 x hx
   ·refine .inr ⟨j+1,by simpa using hj,by simpa using h1,λq hq=>?_,by simp[fH,h,h3]⟩
    match q with
    | 0=>simpa using h
    | q+1=>have:=h2 q (by omega);simpa using this
def HK {α:Type} {k:iII} {v:α}:∀ {es:List (iII×α)},(∀ e∈es,e.1≠k)->nM es k v=es++[(k,v)]
 | [],_=>rfl
 | e::es,h=>by
  simp only[nM,h e (by simp),if_false,List.cons_append];rw[HK λx hx=>h x (by simp[hx])]
def AL8 {α:Type} {k:iII} {v:α}:∀ {es:List (iII×α)} {j:Nat} (hj:j<es.length),es[j].1=k->(∀ q (hq:q<j),es[q].1≠k)->nM es k v=es.set j (k,v)
 | e::es,0,_,he,_=>by
  have:e.1=k:=by simpa using he
  simp[nM,this]
 | e::es,j+1,hj,he,hp=>by
  have hne:e.1≠k:=hp 0 (by omega);simp only[nM,hne,if_false,List.set_cons_succ];rw[AL8 (by simpa using hj) (by simpa using he) λq hq=>by have:=hp (q+1) (by omega);simpa using this]
def ACO {α:Type} {k:iII} {v:α}:∀ {es:List (iII×α)},(nM es k v).length<=es.length+1
 | []=>by simp[nM]
 | e::es=>by
  simp only[nM];split
  ·simp
  ·have:=ACO (k:=k) (v:=v) (es:=es);simp;omega
def zD {es:List (iII×r.den)} {k:iII} {A:Prop} {B:Nat->r.den->Prop} (hA:fH es k=none->A) (hB:∀ i v,fH es k=some v->B i v):iI .string (.string k) (List.map (eS r) es) false r A B:=by
 rcases q9 k es with ⟨h1,h2⟩|⟨j,hj,h1,h2,h3⟩
 ·exact .inl ⟨B9 h2,hA h1⟩
 ·exact .inr ⟨0+j,es[j].2,NW hj h1 h2,hB _ _ h3⟩
def A9X {r:Sy} (h:r.atom=true) (e:iII×r.den):U1 (eS r e)=eS r e:=by
 cases r<;>first|rfl|cases h
def kD {r:Sy} (h:r.atom=true) (es:List (iII×r.den)) (K:List (iII×r.den)->Prop) (hk:K es):dK .str false r (List.map (eS r) es) K :=
 ⟨es,by rw[List.map_map];exact List.map_congr_left λe _=>A9X h e,hk⟩
def AL9 {r:Sy} (h:r.atom=true) {es:List (iII×r.den)} {k:iII} {v:r.den} {K:List (iII×r.den)->Prop} (hK:K (nM es k v)) :
  lP (Option (Nat×D)) (findD .string (.string k) (List.map (eS r) es) 0) λy=>dK .str false r (e7 (List.map (eS r) es) y (.string k) (D.p (aF false r v))) K:=by
 rcases q9 k es with ⟨h1,h2⟩|⟨j,hj,h1,h2,h3⟩
 ·refine ⟨_,B9 h2,?_⟩;rw[HK h2] at hK;rw[show e7 (List.map (eS r) es) none (.string k) (D.p (aF false r v))=List.map (eS r) (es++[(k,v)]) by simp only[e7,List.map_append,List.map_cons,List.map_nil];rfl];exact kD h _ _ hK
 ·refine ⟨_,NW hj h1 h2,?_⟩;rw[AL8 hj h1 h2] at hK;rw[show e7 (List.map (eS r) es) (some (0+j,D.p (aF false r es[j].2))) (.string k) (D.p (aF false r v))=List.map (eS r) (es.set j (k,v)) by simp only[e7,Nat.zero_add,List.map_set];rfl];exact kD h _ _ hK
end
end Go.Pv
