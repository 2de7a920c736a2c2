/-
  How one reasons about maps with keys that are strings: only what a key leads to.
-/
import Derived.Test.YtcnfagefgkblkaaGreatDoorVrkm
set_option linter.defProp false
set_option linter.unusedSimpArgs false
set_option linter.unusedVariables false
namespace Go.Pv
open Go Go.RowKit Go.MapKept
def uX (a b:iII):Instr.sameNow .string (.string a) (.string b)=some (decide (a=b)):=by
 by_cases h:a=b
 ·subst h;rw[ah rfl];simp only[Instr.sameNow,Option.some.injEq];exact (bytes_beq _ _).2 rfl
 ·rw[ai h];simp only[Instr.sameNow,Option.some.injEq];exact Bool.eq_false_iff.2 λh'=>h ((bytes_beq _ _).1 h')
abbrev eS (r:Sy):=a8 .str false r
section
variable {r : Sy}
def DM {k:iII}:∀ {es:List (iII×r.den)} {i:Nat},(∀ e∈es,e.1≠k)->findD .string (.string k) (List.map (eS r) es) i=some none
 | [],_,_=>rfl
 | e::es,i,h=>by
  show (match Instr.sameNow .string (.string k) (.string e.1) with|some true=>_|some false=>_|none=>_)=_;rw[uX,ai (λh'=>h e (by simp) h'.symm)];exact DM λe' he'=>h e' (by simp[he'])
def PC {k:iII}:∀ {es:List (iII×r.den)} {i j:Nat} (hj:j<es.length),es[j].1=k->(∀ q (hq:q<j),es[q].1≠k)->findD .string (.string k) (List.map (eS r) es) i=some (some (i+j,.p (aF false r es[j].2)))
 | e::es,i,0,_,he,_=>by
  show (match Instr.sameNow .string (.string k) (.string e.1) with|some true=>_|some false=>_|none=>_)=_;rw[uX,ah (by simpa using he.symm)];rfl
 | e::es,i,j+1,hj,he,hp=>by
  have hj':j<es.length:=by simpa using hj
  have hne:e.1≠k:=hp 0 (by omega);show (match Instr.sameNow .string (.string k) (.string e.1) with|some true=>_|some false=>_|none=>_)=_;rw[uX,ai (λh=>hne h.symm)];have:=PC (i:=i+1) hj' (by simpa using he) (λq hq=>by have:=hp (q+1) (by omega);simpa using this);rw[show i+1+j=i+(j+1) by omega] at this;exact this
def eC {α:Type}:List (iII×α)->iII->Option α
 | [],_=>none
 | e::es,k=>if e.1=k then some e.2 else eC es k
def nK {α:Type}:List (iII×α)->iII->α->List (iII×α)
 | [],k,v=>[(k,v)]
 | e::es,k,v=>if e.1=k then (k,v)::es else e::nK es k v
def yJ {α:Type} (k:iII) (v:α) (k':iII):∀ (es:List (iII×α)),eC (nK es k v) k'=if k=k' then some v else eC es k'
 | []=>by simp only[nK,eC]
 | e::es=>by
  simp only[nK];by_cases h:e.1=k
  ·simp only[h,if_true,eC];by_cases h2:k=k'
   ·simp[h2]
   ·simp[h2]
  ·simp only[h,if_false,eC,yJ k v k' es];by_cases h2:e.1=k'
   ·rw[if_pos h2,if_pos h2,if_neg λe':k=k'=>h (h2.trans e'.symm)]
   ·rw[if_neg h2,if_neg h2]
def lX {α:Type} (k:iII):∀ (es:List (iII×α)),(eC es k=none/\∀ e∈es,e.1≠k)\/∃ j,∃ hj:j<es.length,es[j].1=k/\(∀ q (hq:q<j),es[q].1≠k)/\eC es k=some es[j].2
 | []=>.inl ⟨rfl,by simp⟩
 | e::es=>by
  by_cases h:e.1=k
  ·exact .inr ⟨0,by simp,by simpa using h,λq hq=>by omega,by simp[eC,h]⟩
  ·rcases lX k es with ⟨h1,h2⟩|⟨j,hj,h1,h2,h3⟩
   ·refine .inl ⟨by simp[eC,h,h1],λx hx=>?_⟩;rcases List.mem_cons.1 hx with rfl|hx
    ·exact h
    ·exact h2 x hx
   ·refine .inr ⟨j+1,by simpa using hj,by simpa using h1,λq hq=>?_,by simp[eC,h,h3]⟩
    match q with
    | 0=>simpa using h
    | q+1=>have:=h2 q (by omega);simpa using this
def IW {α:Type} {k:iII} {v:α}:∀ {es:List (iII×α)},(∀ e∈es,e.1≠k)->nK es k v=es++[(k,v)]
 | [],_=>rfl
 | e::es,h=>by
  simp only[nK,h e (by simp),if_false,List.cons_append];rw[IW λx hx=>h x (by simp[hx])]
def APD {α:Type} {k:iII} {v:α}:∀ {es:List (iII×α)} {j:Nat} (hj:j<es.length),es[j].1=k->(∀ q (hq:q<j),es[q].1≠k)->nK es k v=es.set j (k,v)
 | e::es,0,_,he,_=>by
  have:e.1=k:=by simpa using he
  simp[nK,this]
 | e::es,j+1,hj,he,hp=>by
  have hne:e.1≠k:=hp 0 (by omega);simp only[nK,hne,if_false,List.set_cons_succ];rw[APD (by simpa using hj) (by simpa using he) λq hq=>by have:=hp (q+1) (by omega);simpa using this]
def AE6 {α:Type} {k:iII} {v:α}:∀ {es:List (iII×α)},(nK es k v).length<=es.length+1
 | []=>by simp[nK]
 | e::es=>by
  simp only[nK];split
  ·simp
  ·have:=AE6 (k:=k) (v:=v) (es:=es);simp;omega
def E4 {es:List (iII×r.den)} {k:iII} {A:Prop} {B:Nat->r.den->Prop} (hA:eC es k=none->A) (hB:∀ i v,eC es k=some v->B i v):dJ .string (.string k) (List.map (eS r) es) false r A B:=by
 rcases lX k es with ⟨h1,h2⟩|⟨j,hj,h1,h2,h3⟩
 ·exact .inl ⟨DM h2,hA h1⟩
 ·exact .inr ⟨0+j,es[j].2,PC hj h1 h2,hB _ _ h3⟩
def BCY {r:Sy} (h:r.atom=true) (e:iII×r.den):SO (eS r e)=eS r e:=by
 cases r<;>first|rfl|cases h
def j2 {r:Sy} (h:r.atom=true) (es:List (iII×r.den)) (K:List (iII×r.den)->Prop) (hk:K es):b7 .str false r (List.map (eS r) es) K :=
 ⟨es,by rw[List.map_map];exact List.map_congr_left λe _=>BCY h e,hk⟩
def APE {r:Sy} (h:r.atom=true) {es:List (iII×r.den)} {k:iII} {v:r.den} {K:List (iII×r.den)->Prop} (hK:K (nK es k v)) :
  dS (Option (Nat×D)) (findD .string (.string k) (List.map (eS r) es) 0) λy=>b7 .str false r (dB (List.map (eS r) es) y (.string k) (D.p (aF false r v))) K:=by
 rcases lX k es with ⟨h1,h2⟩|⟨j,hj,h1,h2,h3⟩
 ·refine ⟨_,DM h2,?_⟩;rw[IW h2] at hK;rw[show dB (List.map (eS r) es) none (.string k) (D.p (aF false r v))=List.map (eS r) (es++[(k,v)]) by simp only[dB,List.map_append,List.map_cons,List.map_nil];rfl];exact j2 h _ _ hK
 ·refine ⟨_,PC hj h1 h2,?_⟩;rw[APD hj h1 h2] at hK;rw[show dB (List.map (eS r) es) (some (0+j,D.p (aF false r es[j].2))) (.string k) (D.p (aF false r v))=List.map (eS r) (es.set j (k,v)) by simp only[dB,Nat.zero_add,List.map_set];rfl];exact j2 h _ _ hK
end
end Go.Pv
