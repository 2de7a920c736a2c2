/-
  How one reasons about maps with keys that are strings: only what a key leads to.
-/
import Derived.Test.YtipdohmdckdoeaaGreatDoorVckm
set_option linter.defProp false
set_option linter.unusedSimpArgs false
set_option linter.unusedVariables false
namespace Go.Pv
open Go Go.RowKit Go.MapKept
def T3 (a b:iII):Instr.sameNow .string (.string a) (.string b)=some (decide (a=b)):=by
 by_cases h:a=b
 ·subst h;rw[ai rfl];simp only[Instr.sameNow,Option.some.injEq];exact (bytes_beq _ _).2 rfl
 ·rw[aj h];simp only[Instr.sameNow,Option.some.injEq];exact Bool.eq_false_iff.2 λh'=>h ((bytes_beq _ _).1 h')
abbrev eS (r:Sy):=b6 .str false r
section
variable {r : Sy}
def EZ {k:iII}:∀ {es:List (iII×r.den)} {i:Nat},(∀ e∈es,e.1≠k)->findD .string (.string k) (List.map (eS r) es) i=some none
 | [],_,_=>rfl
 | e::es,i,h=>by
  show (match Instr.sameNow .string (.string k) (.string e.1) with|some true=>_|some false=>_|none=>_)=_;rw[T3,aj (λh'=>h e (by simp) h'.symm)];exact EZ λe' he'=>h e' (by simp[he'])
def RG {k:iII}:∀ {es:List (iII×r.den)} {i j:Nat} (hj:j<es.length),es[j].1=k->(∀ q (hq:q<j),es[q].1≠k)->findD .string (.string k) (List.map (eS r) es) i=some (some (i+j,.p (aG false r es[j].2)))
 | e::es,i,0,_,he,_=>by
  show (match Instr.sameNow .string (.string k) (.string e.1) with|some true=>_|some false=>_|none=>_)=_;rw[T3,ai (by simpa using he.symm)];rfl
 | e::es,i,j+1,hj,he,hp=>by
  have hj':j<es.length:=by simpa using hj
  have hne:e.1≠k:=hp 0 (by omega);show (match Instr.sameNow .string (.string k) (.string e.1) with|some true=>_|some false=>_|none=>_)=_;rw[T3,aj (λh=>hne h.symm)];have:=RG (i:=i+1) hj' (by simpa using he) (λq hq=>by have:=hp (q+1) (by omega);simpa using this);rw[show i+1+j=i+(j+1) by omega] at this;exact this
def fS {α:Type}:List (iII×α)->iII->Option α
 | [],_=>none
 | e::es,k=>if e.1=k then some e.2 else fS es k
def oF {α:Type}:List (iII×α)->iII->α->List (iII×α)
 | [],k,v=>[(k,v)]
 | e::es,k,v=>if e.1=k then (k,v)::es else e::oF es k v
def zN {α:Type} (k:iII) (v:α) (k':iII):∀ (es:List (iII×α)),fS (oF es k v) k'=if k=k' then some v else fS es k'
 | []=>by simp only[oF,fS]
 | e::es=>by
  simp only[oF];by_cases h:e.1=k
  ·simp only[h,if_true,fS];by_cases h2:k=k'
   ·simp[h2]
   ·simp[h2]
  ·simp only[h,if_false,fS,zN k v k' es];by_cases h2:e.1=k'
   ·rw[if_pos h2,if_pos h2,if_neg λe':k=k'=>h (h2.trans e'.symm)]
   ·rw[if_neg h2,if_neg h2]
def rU {α:Type} (k:iII):∀ (es:List (iII×α)),(fS es k=none/\∀ e∈es,e.1≠k)\/∃ j,∃ hj:j<es.length,es[j].1=k/\(∀ q (hq:q<j),es[q].1≠k)/\fS es k=some es[j].2
 | []=>.inl ⟨rfl,by simp⟩
 | e::es=>by
  by_cases h:e.1=k
  ·exact .inr ⟨0,by simp,by simpa using h,λq hq=>by omega,by simp[fS,h]⟩
  ·rcases rU k es with ⟨h1,h2⟩|⟨j,hj,h1,h2,h3⟩
   ·refine .inl ⟨by simp[fS,h,h1],λx hx=>?_⟩;rcases List.mem_cons.1 hx with rfl|hx
    ·exact h
    ·exact h2 x hx
   ·refine .inr ⟨j+1,by simpa using hj,by simpa using h1,λq hq=>?_,by simp[fS,h,h3]⟩
    match q with
    | 0=>simpa using h
    | q+1=>have:=h2 q (by omega);simpa using this
def KV {α:Type} {k:iII} {v:α}:∀ {es:List (iII×α)},(∀ e∈es,e.1≠k)->oF es k v=es++[(k,v)]
 | [],_=>rfl
 | e::es,h=>by
  simp only[oF,h e (by simp),if_false,List.cons_append];rw[KV λx hx=>h x (by simp[hx])]
def APW {α:Type} {k:iII} {v:α}:∀ {es:List (iII×α)} {j:Nat} (hj:j<es.length),es[j].1=k->(∀ q (hq:q<j),es[q].1≠k)->oF es k v=es.set j (k,v)
 | e::es,0,_,he,_=>by
  have:e.1=k:=by simpa using he
  simp[oF,this]
 | e::es,j+1,hj,he,hp=>by
  have hne:e.1≠k:=hp 0 (by omega);simp only[oF,hne,if_false,List.set_cons_succ];rw[APW (by simpa using hj) (by simpa using he) λq hq=>by have:=hp (q+1) (by omega);simpa using this]
def AGC {α:Type} {k:iII} {v:α}:∀ {es:List (iII×α)},(oF es k v).length<=es.length+1
 | []=>by simp[oF]
 | e::es=>by
  simp only[oF];split
  ·simp
  ·have:=AGC (k:=k) (v:=v) (es:=es);simp;omega
def wE {es:List (iII×r.den)} {k:iII} {A:Prop} {B:Nat->r.den->Prop} (hA:fS es k=none->A) (hB:∀ i v,fS es k=some v->B i v):iF .string (.string k) (List.map (eS r) es) false r A B:=by
 rcases rU k es with ⟨h1,h2⟩|⟨j,hj,h1,h2,h3⟩
 ·exact .inl ⟨EZ h2,hA h1⟩
 ·exact .inr ⟨0+j,es[j].2,RG hj h1 h2,hB _ _ h3⟩
def BCD {r:Sy} (h:r.atom=true) (e:iII×r.den):Z0 (eS r e)=eS r e:=by
 cases r<;>first|rfl|cases h
def kJ {r:Sy} (h:r.atom=true) (es:List (iII×r.den)) (K:List (iII×r.den)->Prop) (hk:K es):cV .str false r (List.map (eS r) es) K :=
 ⟨es,by rw[List.map_map];exact List.map_congr_left λe _=>BCD h e,hk⟩
def APX {r:Sy} (h:r.atom=true) {es:List (iII×r.den)} {k:iII} {v:r.den} {K:List (iII×r.den)->Prop} (hK:K (oF es k v)) :
  eT (Option (Nat×D)) (findD .string (.string k) (List.map (eS r) es) 0) λy=>cV .str false r (eP (List.map (eS r) es) y (.string k) (D.p (aG false r v))) K:=by
 rcases rU k es with ⟨h1,h2⟩|⟨j,hj,h1,h2,h3⟩
 ·refine ⟨_,EZ h2,?_⟩;rw[KV h2] at hK;rw[show eP (List.map (eS r) es) none (.string k) (D.p (aG false r v))=List.map (eS r) (es++[(k,v)]) by simp only[eP,List.map_append,List.map_cons,List.map_nil];rfl];exact kJ h _ _ hK
 ·refine ⟨_,RG hj h1 h2,?_⟩;rw[APW hj h1 h2] at hK;rw[show eP (List.map (eS r) es) (some (0+j,D.p (aG false r es[j].2))) (.string k) (D.p (aG false r v))=List.map (eS r) (es.set j (k,v)) by simp only[eP,Nat.zero_add,List.map_set];rfl];exact kJ h _ _ hK
end
end Go.Pv
