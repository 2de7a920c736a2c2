/-
  How one reasons about maps with keys that are strings: only what a key leads to.
-/
import Derived.Test.YtcnfagefgkblkaaGreatDoorVskm
set_option linter.defProp false
set_option linter.unusedSimpArgs false
set_option linter.unusedVariables false
namespace Go.Pv
open Go Go.RowKit Go.MapKept
theorem NA (a b:ByteArray):Instr.sameNow .string (.string a) (.string b)=some (decide (a=b)):=by
 by_cases h:a=b
 ·subst h
  rw[decide_eq_true rfl]
  simp only[Instr.sameNow,Option.some.injEq]
  exact (bytes_beq _ _).2 rfl
 ·rw[decide_eq_false h]
  simp only[Instr.sameNow,Option.some.injEq]
  exact Bool.eq_false_iff.2 fun h'=>h ((bytes_beq _ _).1 h')
abbrev eS (r:Sy):=cN .str false r
section
variable {r : Sy}
theorem zW {k:ByteArray}:∀ {es:List (ByteArray×r.den)} {i:Nat},(∀ e∈es,e.1≠k)→findD .string (.string k) (List.map (eS r) es) i=some none
 | [],_,_=>rfl
 | e::es,i,h=>by
  show (match Instr.sameNow .string (.string k) (.string e.1) with|some true=>_|some false=>_|none=>_)=_
  rw[NA,decide_eq_false (fun h'=>h e (by simp) h'.symm)]
  exact zW fun e' he'=>h e' (by simp[he'])
theorem K2 {k:ByteArray}:∀ {es:List (ByteArray×r.den)} {i j:Nat} (hj:j<es.length),es[j].1=k→(∀ q (hq:q<j),es[q].1≠k)→findD .string (.string k) (List.map (eS r) es) i=some (some (i+j,.p (aF false r es[j].2)))
 | e::es,i,0,_,he,_=>by
  show (match Instr.sameNow .string (.string k) (.string e.1) with|some true=>_|some false=>_|none=>_)=_
  rw[NA,decide_eq_true (by simpa using he.symm)];rfl
 | e::es,i,j+1,hj,he,hp=>by
  have hj':j<es.length:=by simpa using hj
  have hne:e.1≠k:=hp 0 (by omega)
  show (match Instr.sameNow .string (.string k) (.string e.1) with|some true=>_|some false=>_|none=>_)=_
  rw[NA,decide_eq_false (fun h=>hne h.symm)]
  have:=K2 (i:=i+1) hj' (by simpa using he) (fun q hq=>by have:=hp (q+1) (by omega);simpa using this)
  rw[show i+1+j=i+(j+1) by omega] at this
  exact this
def e6 {α:Type}:List (ByteArray×α)→ByteArray→Option α
 | [],_=>none
 | e::es,k=>if e.1=k then some e.2 else e6 es k
def uS {α:Type}:List (ByteArray×α)→ByteArray→α→List (ByteArray×α)
 | [],k,v=>[(k,v)]
 | e::es,k,v=>if e.1=k then (k,v)::es else e::uS es k v
theorem wC {α:Type} (k:ByteArray) (v:α) (k':ByteArray):∀ (es:List (ByteArray×α)),e6 (uS es k v) k'=if k=k' then some v else e6 es k'
 | []=>by simp only[uS,e6]
 | e::es=>by
  simp only[uS]
  by_cases h:e.1=k
  ·simp only[h,if_true,e6]
   by_cases h2:k=k'
   ·simp[h2]
   ·simp[h2]
  ·simp only[h,if_false,e6,wC k v k' es]
   by_cases h2:e.1=k'
   ·rw[if_pos h2,if_pos h2,if_neg fun e':k=k'=>h (h2.trans e'.symm)]
   ·rw[if_neg h2,if_neg h2]
theorem tJ {α:Type} (k:ByteArray):∀ (es:List (ByteArray×α)),(e6 es k=none∧∀ e∈es,e.1≠k)∨∃ j,∃ hj:j<es.length,es[j].1=k∧(∀ q (hq:q<j),es[q].1≠k)∧e6 es k=some es[j].2
 | []=>.inl ⟨rfl,by simp⟩
 | e::es=>by
  by_cases h:e.1=k
  ·exact .inr ⟨0,by simp,by simpa using h,fun q hq=>by omega,by simp[e6,h]⟩
  ·rcases tJ k es with ⟨h1,h2⟩|⟨j,hj,h1,h2,h3⟩
   ·refine .inl ⟨by simp[e6,h,h1],fun x hx=>?_⟩
    rcases List.mem_cons.1 hx with rfl|hx
    ·exact h
    ·exact h2 x hx
   ·refine .inr ⟨j+1,by simpa using hj,by simpa using h1,fun q hq=>?_,by simp[e6,h,h3]⟩
    match q with
    | 0=>simpa using h
    | q+1=>have:=h2 q (by omega);simpa using this
theorem P3 {α:Type} {k:ByteArray} {v:α}:∀ {es:List (ByteArray×α)},(∀ e∈es,e.1≠k)→uS es k v=es++[(k,v)]
 | [],_=>rfl
 | e::es,h=>by
  simp only[uS,h e (by simp),if_false,List.cons_append]
  rw[P3 fun x hx=>h x (by simp[hx])]
theorem AIA {α:Type} {k:ByteArray} {v:α}:∀ {es:List (ByteArray×α)} {j:Nat} (hj:j<es.length),es[j].1=k→(∀ q (hq:q<j),es[q].1≠k)→uS es k v=es.set j (k,v)
 | e::es,0,_,he,_=>by
  have:e.1=k:=by simpa using he
  simp[uS,this]
 | e::es,j+1,hj,he,hp=>by
  have hne:e.1≠k:=hp 0 (by omega)
  simp only[uS,hne,if_false,List.set_cons_succ]
  rw[AIA (by simpa using hj) (by simpa using he) fun q hq=>by have:=hp (q+1) (by omega);simpa using this]
theorem BK {es:List (ByteArray×r.den)} {k:ByteArray} {A:Prop} {B:Nat→r.den→Prop} (hA:e6 es k=none→A) (hB:∀ i v,e6 es k=some v→B i v):gH .string (.string k) (List.map (eS r) es) false r A B:=by
 rcases tJ k es with ⟨h1,h2⟩|⟨j,hj,h1,h2,h3⟩
 ·exact .inl ⟨zW h2,hA h1⟩
 ·exact .inr ⟨0+j,es[j].2,K2 hj h1 h2,hB _ _ h3⟩
theorem A2M {r:Sy} (h:r.atom=true) (e:ByteArray×r.den):SF (eS r e)=eS r e:=by
 cases r<;>first|rfl|cases h
theorem nA {r:Sy} (h:r.atom=true) (es:List (ByteArray×r.den)) (K:List (ByteArray×r.den)→Prop) (hk:K es):dN .str false r (List.map (eS r) es) K :=
 ⟨es,by rw[List.map_map];exact List.map_congr_left fun e _=>A2M h e,hk⟩
theorem AWX {r:Sy} (h:r.atom=true) {es:List (ByteArray×r.den)} {k:ByteArray} {v:r.den} {K:List (ByteArray×r.den)→Prop} (hK:K (uS es k v)) :
  nV (Option (Nat×D)) (findD .string (.string k) (List.map (eS r) es) 0) fun y=>dN .str false r (eZ (List.map (eS r) es) y (.string k) (D.p (aF false r v))) K:=by
 rcases tJ k es with ⟨h1,h2⟩|⟨j,hj,h1,h2,h3⟩
 ·refine ⟨_,zW h2,?_⟩
  rw[P3 h2] at hK
  rw[show eZ (List.map (eS r) es) none (.string k) (D.p (aF false r v))=List.map (eS r) (es++[(k,v)]) by simp only[eZ,List.map_append,List.map_cons,List.map_nil];rfl]
  exact nA h _ _ hK
 ·refine ⟨_,K2 hj h1 h2,?_⟩
  rw[AIA hj h1 h2] at hK
  rw[show eZ (List.map (eS r) es) (some (0+j,D.p (aF false r es[j].2))) (.string k) (D.p (aF false r v))=List.map (eS r) (es.set j (k,v)) by simp only[eZ,Nat.zero_add,List.map_set];rfl]
  exact nA h _ _ hK
end
end Go.Pv
