/-
  How one reasons about maps with keys that are strings: only what a key leads to.
-/
import Derived.Test.YtipdohmdckdoeaaGreatDoorVakm
set_option linter.defProp false
set_option linter.unusedSimpArgs false
set_option linter.unusedVariables false
namespace Go.Pv
open Go Go.RowKit Go.MapKept
theorem C3 (a b:ByteArray):Instr.sameNow .string (.string a) (.string b)=some (decide (a=b)):=by
 by_cases h:a=b
 ·subst h
  rw[decide_eq_true rfl]
  simp only[Instr.sameNow,Option.some.injEq]
  exact (bytes_beq _ _).2 rfl
 ·rw[decide_eq_false h]
  simp only[Instr.sameNow,Option.some.injEq]
  exact Bool.eq_false_iff.2 fun h'=>h ((bytes_beq _ _).1 h')
abbrev eS (r:Sy):=dE .str false r
section
variable {r : Sy}
theorem sP {k:ByteArray}:∀ {es:List (ByteArray×r.den)} {i:Nat},(∀ e∈es,e.1≠k)→findD .string (.string k) (List.map (eS r) es) i=some none
 | [],_,_=>rfl
 | e::es,i,h=>by
  show (match Instr.sameNow .string (.string k) (.string e.1) with|some true=>_|some false=>_|none=>_)=_
  rw[C3,decide_eq_false (fun h'=>h e (by simp) h'.symm)]
  exact sP fun e' he'=>h e' (by simp[he'])
theorem BP {k:ByteArray}:∀ {es:List (ByteArray×r.den)} {i j:Nat} (hj:j<es.length),es[j].1=k→(∀ q (hq:q<j),es[q].1≠k)→findD .string (.string k) (List.map (eS r) es) i=some (some (i+j,.p (aG false r es[j].2)))
 | e::es,i,0,_,he,_=>by
  show (match Instr.sameNow .string (.string k) (.string e.1) with|some true=>_|some false=>_|none=>_)=_
  rw[C3,decide_eq_true (by simpa using he.symm)];rfl
 | e::es,i,j+1,hj,he,hp=>by
  have hj':j<es.length:=by simpa using hj
  have hne:e.1≠k:=hp 0 (by omega)
  show (match Instr.sameNow .string (.string k) (.string e.1) with|some true=>_|some false=>_|none=>_)=_
  rw[C3,decide_eq_false (fun h=>hne h.symm)]
  have:=BP (i:=i+1) hj' (by simpa using he) (fun q hq=>by have:=hp (q+1) (by omega);simpa using this)
  rw[show i+1+j=i+(j+1) by omega] at this
  exact this
def kD {α:Type}:List (ByteArray×α)→ByteArray→Option α
 | [],_=>none
 | e::es,k=>if e.1=k then some e.2 else kD es k
def oR {α:Type}:List (ByteArray×α)→ByteArray→α→List (ByteArray×α)
 | [],k,v=>[(k,v)]
 | e::es,k,v=>if e.1=k then (k,v)::es else e::oR es k v
theorem mW {α:Type} (k:ByteArray):∀ (es:List (ByteArray×α)),(kD es k=none∧∀ e∈es,e.1≠k)∨∃ j,∃ hj:j<es.length,es[j].1=k∧(∀ q (hq:q<j),es[q].1≠k)∧kD es k=some es[j].2
 | []=>.inl ⟨rfl,by simp⟩
 | e::es=>by
  by_cases h:e.1=k
  ·exact .inr ⟨0,by simp,by simpa using h,fun q hq=>by omega,by simp[kD,h]⟩
  ·rcases mW k es with ⟨h1,h2⟩|⟨j,hj,h1,h2,h3⟩
   ·refine .inl ⟨by simp[kD,h,h1],fun x hx=>?_⟩
    rcases List.mem_cons.1 hx with rfl|hx
    ·exact h
    ·exact h2 x hx
   ·refine .inr ⟨j+1,by simpa using hj,by simpa using h1,fun q hq=>?_,by simp[kD,h,h3]⟩
    match q with
    | 0=>simpa using h
    | q+1=>have:=h2 q (by omega);simpa using this
theorem xE {α:Type} {k:ByteArray} {v:α}:∀ {es:List (ByteArray×α)},(∀ e∈es,e.1≠k)→oR es k v=es++[(k,v)]
 | [],_=>rfl
 | e::es,h=>by
  simp only[oR,h e (by simp),if_false,List.cons_append]
  rw[xE fun x hx=>h x (by simp[hx])]
theorem PY {α:Type} {k:ByteArray} {v:α}:∀ {es:List (ByteArray×α)} {j:Nat} (hj:j<es.length),es[j].1=k→(∀ q (hq:q<j),es[q].1≠k)→oR es k v=es.set j (k,v)
 | e::es,0,_,he,_=>by
  have:e.1=k:=by simpa using he
  simp[oR,this]
 | e::es,j+1,hj,he,hp=>by
  have hne:e.1≠k:=hp 0 (by omega)
  simp only[oR,hne,if_false,List.set_cons_succ]
  rw[PY (by simpa using hj) (by simpa using he) fun q hq=>by have:=hp (q+1) (by omega);simpa using this]
theorem KC {α:Type} {k:ByteArray} {v:α}:∀ {es:List (ByteArray×α)},(oR es k v).length≤es.length+1
 | []=>by simp[oR]
 | e::es=>by
  simp only[oR]
  split
  ·simp
  ·have:=KC (k:=k) (v:=v) (es:=es);simp;omega
theorem AA9 {es:List (ByteArray×r.den)} {k:ByteArray} {A:Prop} {B:Nat→r.den→Prop} (hA:kD es k=none→A) (hB:∀ i v,kD es k=some v→B i v):V6 .string (.string k) (List.map (eS r) es) false r A B:=by
 rcases mW k es with ⟨h1,h2⟩|⟨j,hj,h1,h2,h3⟩
 ·exact .inl ⟨sP h2,hA h1⟩
 ·exact .inr ⟨0+j,es[j].2,BP hj h1 h2,hB _ _ h3⟩
theorem AAW {r:Sy} (h:r.atom=true) (e:ByteArray×r.den):GP (eS r e)=eS r e:=by
 cases r<;>first|rfl|cases h
theorem oG {r:Sy} (h:r.atom=true) (es:List (ByteArray×r.den)) (K:List (ByteArray×r.den)→Prop) (hk:K es):iG .str false r (List.map (eS r) es) K :=
 ⟨es,by rw[List.map_map];exact List.map_congr_left fun e _=>AAW h e,hk⟩
theorem AGQ {r:Sy} (h:r.atom=true) {es:List (ByteArray×r.den)} {k:ByteArray} {v:r.den} {K:List (ByteArray×r.den)→Prop} (hK:K (oR es k v)) :
  fJ (Option (Nat×D)) (findD .string (.string k) (List.map (eS r) es) 0) fun y=>iG .str false r (kM (List.map (eS r) es) y (.string k) (D.p (aG false r v))) K:=by
 rcases mW k es with ⟨h1,h2⟩|⟨j,hj,h1,h2,h3⟩
 ·refine ⟨_,sP h2,?_⟩
  rw[xE h2] at hK
  rw[show kM (List.map (eS r) es) none (.string k) (D.p (aG false r v))=List.map (eS r) (es++[(k,v)]) by simp only[kM,List.map_append,List.map_cons,List.map_nil];rfl]
  exact oG h _ _ hK
 ·refine ⟨_,BP hj h1 h2,?_⟩
  rw[PY hj h1 h2] at hK
  rw[show kM (List.map (eS r) es) (some (0+j,D.p (aG false r es[j].2))) (.string k) (D.p (aG false r v))=List.map (eS r) (es.set j (k,v)) by simp only[kM,Nat.zero_add,List.map_set];rfl]
  exact oG h _ _ hK
end
end Go.Pv
