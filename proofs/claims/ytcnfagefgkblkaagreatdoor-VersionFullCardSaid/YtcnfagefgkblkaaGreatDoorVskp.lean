/-
  Nil slices deep within what is handed over.
-/
import Derived.Test.YtcnfagefgkblkaaGreatDoorVskh
set_option linter.defProp false
set_option linter.unusedSimpArgs false
set_option linter.unusedVariables false
namespace Go.Pv
open Go Go.RowKit
def T.deep:Nat→T→T
 | 0,t=>t
 | n+1,.sl _ rows=>.sl false (rows.map fun r=>r.map (T.deep n))
 | _+1,.v (.slice none 0 0)=>.sl false []
 | _+1,.ne _=>.sl false []
 | n+1,.agg cs=>.agg (cs.map (T.deep n))
 | _+1,t=>t
theorem cE.deep {w:World} {own:Nat→Prop}:∀ (n:Nat) {t:T} {v:Value},cE w own t v→cE w own (T.deep n t) v:=by
 intro n
 induction n with
 | zero=>intro t v h;exact h
 | succ n ih =>
  intro t v h
  unfold T.deep
  split
  ·rename_i e;cases e
  ·rename_i n' f rows e
   cases e
   cases h with
   | cH _ a cap hf hn=>exact .cH false a cap (by simp) hn
   | sl _ _ sz b o cap g h1 h2 h3 h4 h45 h5 h6 h7 h8 =>
    have e1:(rows.map fun r=>r.map (T.deep n)).length=rows.length:=by simp
    rw[←e1]
    refine .sl false _ sz b o cap g (by rw[e1];exact h1) (by rw[e1];exact h2) (by simp) h4 h45 (fun r hr=>?_) h6 (fun i j hi hj=>h7 i j (by rw[e1] at hi;exact hi) hj) (fun i j hi hj=>?_)
    ·obtain ⟨r',hr',rfl⟩:=List.mem_map.1 hr
     rw[List.length_map];exact h5 r' hr'
    ·simp only[List.getElem_map]
     exact ih (h8 i j (by simpa using hi) (by simpa using hj))
  ·rename_i e;cases e;cases h;exact .cH false none 0 (by simp) (by simp)
  ·rename_i e
   cases e
   cases h with
   | ne _ a cap hf=>exact .cH false (some a) cap (by simp) (by simp)
  ·rename_i n' cs e
   cases e
   cases h with
   | agg _ vs h1 h2=>exact .agg _ vs (by simpa using h1) fun i hi=>by simpa using ih (h2 i (by simpa using hi))
  ·exact h
def gD {α:Type} (g:List T→Option α) (args:List T):Option α:=g (args.map (T.deep 4))
theorem aN.deep {P:Program} {f:FuncId} {g:List T→Option T} (h:aN P f g):aN P f (gD g):=⟨h.entry,fun w own args vs r hG ho ha hr=>h.calls w own (args.map (T.deep 4)) vs r hG ho ⟨by simpa using ha.1,fun i hi=>by
 have:=(ha.2 i (by simpa using hi)).deep 4
 simpa using this⟩ hr⟩
end Go.Pv
