/-
  How one reasons about maps with keys that are strings: only what a key leads to.
-/
import Derived.Test.YtjledgajjgkbhaaGreatDoorVapkm
set_option linter.defProp false
set_option linter.unusedSimpArgs false
set_option linter.unusedVariables false
namespace Go.Pv
open Go Go.RowKit Go.MapKept
theorem P9 (a b:ByteArray):Instr.sameNow .string (.string a) (.string b)=some (decide (a=b)):=by
 by_cases h:a=b
 ·subst h
  rw[decide_eq_true rfl]
  simp only[Instr.sameNow,Option.some.injEq]
  exact (bytes_beq _ _).2 rfl
 ·rw[decide_eq_false h]
  simp only[Instr.sameNow,Option.some.injEq]
  exact Bool.eq_false_iff.2 fun h'=>h ((bytes_beq _ _).1 h')
abbrev eS (r:Sy):=cW .str false r
section
variable {r : Sy}
theorem B9 {k:ByteArray}:∀ {es:List (ByteArray×r.den)} {i:Nat},(∀ e∈es,e.1≠k)→findD .string (.string k) (List.map (eS r) es) i=some none
 | [],_,_=>rfl
 | e::es,i,h=>by
  show (match Instr.sameNow .string (.string k) (.string e.1) with|some true=>_|some false=>_|none=>_)=_
  rw[P9,decide_eq_false (fun h'=>h e (by simp) h'.symm)]
  exact B9 fun e' he'=>h e' (by simp[he'])
theorem NZ {k:ByteArray}:∀ {es:List (ByteArray×r.den)} {i j:Nat} (hj:j<es.length),es[j].1=k→(∀ q (hq:q<j),es[q].1≠k)→findD .string (.string k) (List.map (eS r) es) i=some (some (i+j,.p (aF false r es[j].2)))
 | e::es,i,0,_,he,_=>by
  show (match Instr.sameNow .string (.string k) (.string e.1) with|some true=>_|some false=>_|none=>_)=_
  rw[P9,decide_eq_true (by simpa using he.symm)];rfl
 | e::es,i,j+1,hj,he,hp=>by
  have hj':j<es.length:=by simpa using hj
  have hne:e.1≠k:=hp 0 (by omega)
  show (match Instr.sameNow .string (.string k) (.string e.1) with|some true=>_|some false=>_|none=>_)=_
  rw[P9,decide_eq_false (fun h=>hne h.symm)]
  have:=NZ (i:=i+1) hj' (by simpa using he) (fun q hq=>by have:=hp (q+1) (by omega);simpa using this)
  rw[show i+1+j=i+(j+1) by omega] at this
  exact this
def j1 {α:Type}:List (ByteArray×α)→ByteArray→Option α
 | [],_=>none
 | e::es,k=>if e.1=k then some e.2 else j1 es k
def wP {α:Type}:List (ByteArray×α)→ByteArray→α→List (ByteArray×α)
 | [],k,v=>[(k,v)]
 | e::es,k,v=>if e.1=k then (k,v)::es else e::wP es k v
theorem xZ {α:Type} (k:ByteArray) (v:α) (k':ByteArray):∀ (es:List (ByteArray×α)),j1 (wP es k v) k'=if k=k' then some v else j1 es k'
 | []=>by simp only[wP,j1]
 | e::es=>by
  simp only[wP]
  by_cases h:e.1=k
  ·simp only[h,if_true,j1]
   by_cases h2:k=k'
   ·simp[h2]
   ·simp[h2]
  ·simp only[h,if_false,j1,xZ k v k' es]
   by_cases h2:e.1=k'
   ·rw[if_pos h2,if_pos h2,if_neg fun e':k=k'=>h (h2.trans e'.symm)]
   ·rw[if_neg h2,if_neg h2]
theorem vE {α:Type} (k:ByteArray):∀ (es:List (ByteArray×α)),(j1 es k=none∧∀ e∈es,e.1≠k)∨∃ j,∃ hj:j<es.length,es[j].1=k∧(∀ q (hq:q<j),es[q].1≠k)∧j1 es k=some es[j].2
 | []=>.inl ⟨rfl,by simp⟩
 | e::es=>by
  by_cases h:e.1=k
  ·exact .inr ⟨0,by simp,by simpa using h,fun q hq=>by omega,by simp[j1,h]⟩
  ·rcases vE k es with ⟨h1,h2⟩|⟨j,hj,h1,h2,h3⟩
   ·refine .inl ⟨by simp[j1,h,h1],fun x hx=>?_⟩
    rcases List.mem_cons.1 hx with rfl|hx
    ·exact h
    ·exact h2 x hx
   ·refine .inr ⟨j+1,by simpa using hj,by simpa using h1,fun q hq=>?_,by simp[j1,h,h3]⟩
    match q with
    | 0=>simpa using h
    | q+1=>have:=h2 q (by omega);simpa using this
theorem S8 {α:Type} {k:ByteArray} {v:α}:∀ {es:List (ByteArray×α)},(∀ e∈es,e.1≠k)→wP es k v=es++[(k,v)]
 | [],_=>rfl
 | e::es,h=>by
  simp only[wP,h e (by simp),if_false,List.cons_append]
  rw[S8 fun x hx=>h x (by simp[hx])]
theorem AL4 {α:Type} {k:ByteArray} {v:α}:∀ {es:List (ByteArray×α)} {j:Nat} (hj:j<es.length),es[j].1=k→(∀ q (hq:q<j),es[q].1≠k)→wP es k v=es.set j (k,v)
 | e::es,0,_,he,_=>by
  have:e.1=k:=by simpa using he
  simp[wP,this]
 | e::es,j+1,hj,he,hp=>by
  have hne:e.1≠k:=hp 0 (by omega)
  simp only[wP,hne,if_false,List.set_cons_succ]
  rw[AL4 (by simpa using hj) (by simpa using he) fun q hq=>by have:=hp (q+1) (by omega);simpa using this]
theorem D9 {es:List (ByteArray×r.den)} {k:ByteArray} {A:Prop} {B:Nat→r.den→Prop} (hA:j1 es k=none→A) (hB:∀ i v,j1 es k=some v→B i v):iF .string (.string k) (List.map (eS r) es) false r A B:=by
 rcases vE k es with ⟨h1,h2⟩|⟨j,hj,h1,h2,h3⟩
 ·exact .inl ⟨B9 h2,hA h1⟩
 ·exact .inr ⟨0+j,es[j].2,NZ hj h1 h2,hB _ _ h3⟩
theorem A4M {r:Sy} (h:r.atom=true) (e:ByteArray×r.den):VR (eS r e)=eS r e:=by
 cases r<;>first|rfl|cases h
theorem oF {r:Sy} (h:r.atom=true) (es:List (ByteArray×r.den)) (K:List (ByteArray×r.den)→Prop) (hk:K es):eJ .str false r (List.map (eS r) es) K :=
 ⟨es,by rw[List.map_map];exact List.map_congr_left fun e _=>A4M h e,hk⟩
theorem AZT {r:Sy} (h:r.atom=true) {es:List (ByteArray×r.den)} {k:ByteArray} {v:r.den} {K:List (ByteArray×r.den)→Prop} (hK:K (wP es k v)) :
  oZ (Option (Nat×D)) (findD .string (.string k) (List.map (eS r) es) 0) fun y=>eJ .str false r (fN (List.map (eS r) es) y (.string k) (D.p (aF false r v))) K:=by
 rcases vE k es with ⟨h1,h2⟩|⟨j,hj,h1,h2,h3⟩
 ·refine ⟨_,B9 h2,?_⟩
  rw[S8 h2] at hK
  rw[show fN (List.map (eS r) es) none (.string k) (D.p (aF false r v))=List.map (eS r) (es++[(k,v)]) by simp only[fN,List.map_append,List.map_cons,List.map_nil];rfl]
  exact oF h _ _ hK
 ·refine ⟨_,NZ hj h1 h2,?_⟩
  rw[AL4 hj h1 h2] at hK
  rw[show fN (List.map (eS r) es) (some (0+j,D.p (aF false r es[j].2))) (.string k) (D.p (aF false r v))=List.map (eS r) (es.set j (k,v)) by simp only[fN,Nat.zero_add,List.map_set];rfl]
  exact oF h _ _ hK
end
end Go.Pv
