/-
  How one reasons about maps with keys that are strings: only what a key leads to.
-/
import Derived.Test.YtdplnhkfbmgofaaGreatDoorPv2km
set_option linter.defProp false
set_option linter.unusedSimpArgs false
set_option linter.unusedVariables false
namespace Go.Pv
open Go Go.RowKit Go.MapKept
theorem ML (a b:ByteArray):Instr.sameNow .string (.string a) (.string b)=some (decide (a=b)):=by
 by_cases h:a=b
 ·subst h
  rw[decide_eq_true rfl]
  simp only[Instr.sameNow,Option.some.injEq]
  exact (bytes_beq _ _).2 rfl
 ·rw[decide_eq_false h]
  simp only[Instr.sameNow,Option.some.injEq]
  exact Bool.eq_false_iff.2 fun h'=>h ((bytes_beq _ _).1 h')
abbrev eS (r:Sy):=cK .str false r
section
variable {r : Sy}
theorem zI {k:ByteArray}:∀ {es:List (ByteArray×r.den)} {i:Nat},(∀ e∈es,e.1≠k)→findD .string (.string k) (List.map (eS r) es) i=some none
 | [],_,_=>rfl
 | e::es,i,h=>by
  show (match Instr.sameNow .string (.string k) (.string e.1) with|some true=>_|some false=>_|none=>_)=_
  rw[ML,decide_eq_false (fun h'=>h e (by simp) h'.symm)]
  exact zI fun e' he'=>h e' (by simp[he'])
theorem J7 {k:ByteArray}:∀ {es:List (ByteArray×r.den)} {i j:Nat} (hj:j<es.length),es[j].1=k→(∀ q (hq:q<j),es[q].1≠k)→findD .string (.string k) (List.map (eS r) es) i=some (some (i+j,.p (aH false r es[j].2)))
 | e::es,i,0,_,he,_=>by
  show (match Instr.sameNow .string (.string k) (.string e.1) with|some true=>_|some false=>_|none=>_)=_
  rw[ML,decide_eq_true (by simpa using he.symm)];rfl
 | e::es,i,j+1,hj,he,hp=>by
  have hj':j<es.length:=by simpa using hj
  have hne:e.1≠k:=hp 0 (by omega)
  show (match Instr.sameNow .string (.string k) (.string e.1) with|some true=>_|some false=>_|none=>_)=_
  rw[ML,decide_eq_false (fun h=>hne h.symm)]
  have:=J7 (i:=i+1) hj' (by simpa using he) (fun q hq=>by have:=hp (q+1) (by omega);simpa using this)
  rw[show i+1+j=i+(j+1) by omega] at this
  exact this
def iO {α:Type}:List (ByteArray×α)→ByteArray→Option α
 | [],_=>none
 | e::es,k=>if e.1=k then some e.2 else iO es k
def uJ {α:Type}:List (ByteArray×α)→ByteArray→α→List (ByteArray×α)
 | [],k,v=>[(k,v)]
 | e::es,k,v=>if e.1=k then (k,v)::es else e::uJ es k v
theorem vU {α:Type} (k:ByteArray) (v:α) (k':ByteArray):∀ (es:List (ByteArray×α)),iO (uJ es k v) k'=if k=k' then some v else iO es k'
 | []=>by simp only[uJ,iO]
 | e::es=>by
  simp only[uJ]
  by_cases h:e.1=k
  ·simp only[h,if_true,iO]
   by_cases h2:k=k'
   ·simp[h2]
   ·simp[h2]
  ·simp only[h,if_false,iO,vU k v k' es]
   by_cases h2:e.1=k'
   ·rw[if_pos h2,if_pos h2,if_neg fun e':k=k'=>h (h2.trans e'.symm)]
   ·rw[if_neg h2,if_neg h2]
theorem sX {α:Type} (k:ByteArray):∀ (es:List (ByteArray×α)),(iO es k=none∧∀ e∈es,e.1≠k)∨∃ j,∃ hj:j<es.length,es[j].1=k∧(∀ q (hq:q<j),es[q].1≠k)∧iO es k=some es[j].2
 | []=>.inl ⟨rfl,by simp⟩
 | e::es=>by
  by_cases h:e.1=k
  ·exact .inr ⟨0,by simp,by simpa using h,fun q hq=>by omega,by simp[iO,h]⟩
  ·rcases sX k es with ⟨h1,h2⟩|⟨j,hj,h1,h2,h3⟩
   ·refine .inl ⟨by simp[iO,h,h1],fun x hx=>?_⟩
    rcases List.mem_cons.1 hx with rfl|hx
    ·exact h
    ·exact h2 x hx
   ·refine .inr ⟨j+1,by simpa using hj,by simpa using h1,fun q hq=>?_,by simp[iO,h,h3]⟩
    match q with
    | 0=>simpa using h
    | q+1=>have:=h2 q (by omega);simpa using this
theorem O8 {α:Type} {k:ByteArray} {v:α}:∀ {es:List (ByteArray×α)},(∀ e∈es,e.1≠k)→uJ es k v=es++[(k,v)]
 | [],_=>rfl
 | e::es,h=>by
  simp only[uJ,h e (by simp),if_false,List.cons_append]
  rw[O8 fun x hx=>h x (by simp[hx])]
theorem AF9 {α:Type} {k:ByteArray} {v:α}:∀ {es:List (ByteArray×α)} {j:Nat} (hj:j<es.length),es[j].1=k→(∀ q (hq:q<j),es[q].1≠k)→uJ es k v=es.set j (k,v)
 | e::es,0,_,he,_=>by
  have:e.1=k:=by simpa using he
  simp[uJ,this]
 | e::es,j+1,hj,he,hp=>by
  have hne:e.1≠k:=hp 0 (by omega)
  simp only[uJ,hne,if_false,List.set_cons_succ]
  rw[AF9 (by simpa using hj) (by simpa using he) fun q hq=>by have:=hp (q+1) (by omega);simpa using this]
theorem A5 {es:List (ByteArray×r.den)} {k:ByteArray} {A:Prop} {B:Nat→r.den→Prop} (hA:iO es k=none→A) (hB:∀ i v,iO es k=some v→B i v):fZ .string (.string k) (List.map (eS r) es) false r A B:=by
 rcases sX k es with ⟨h1,h2⟩|⟨j,hj,h1,h2,h3⟩
 ·exact .inl ⟨zI h2,hA h1⟩
 ·exact .inr ⟨0+j,es[j].2,J7 hj h1 h2,hB _ _ h3⟩
theorem AY4 {r:Sy} (h:r.atom=true) (e:ByteArray×r.den):RE (eS r e)=eS r e:=by
 cases r<;>first|rfl|cases h
theorem mT {r:Sy} (h:r.atom=true) (es:List (ByteArray×r.den)) (K:List (ByteArray×r.den)→Prop) (hk:K es):dL .str false r (List.map (eS r) es) K :=
 ⟨es,by rw[List.map_map];exact List.map_congr_left fun e _=>AY4 h e,hk⟩
theorem ATV {r:Sy} (h:r.atom=true) {es:List (ByteArray×r.den)} {k:ByteArray} {v:r.den} {K:List (ByteArray×r.den)→Prop} (hK:K (uJ es k v)) :
  nO (Option (Nat×D)) (findD .string (.string k) (List.map (eS r) es) 0) fun y=>dL .str false r (eJ (List.map (eS r) es) y (.string k) (D.p (aH false r v))) K:=by
 rcases sX k es with ⟨h1,h2⟩|⟨j,hj,h1,h2,h3⟩
 ·refine ⟨_,zI h2,?_⟩
  rw[O8 h2] at hK
  rw[show eJ (List.map (eS r) es) none (.string k) (D.p (aH false r v))=List.map (eS r) (es++[(k,v)]) by simp only[eJ,List.map_append,List.map_cons,List.map_nil];rfl]
  exact mT h _ _ hK
 ·refine ⟨_,J7 hj h1 h2,?_⟩
  rw[AF9 hj h1 h2] at hK
  rw[show eJ (List.map (eS r) es) (some (0+j,D.p (aH false r es[j].2))) (.string k) (D.p (aH false r v))=List.map (eS r) (es.set j (k,v)) by simp only[eJ,Nat.zero_add,List.map_set];rfl]
  exact mT h _ _ hK
end
end Go.Pv
