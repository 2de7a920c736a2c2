/-
  Nil slices deep within what is handed over.
-/
import Derived.Test.YtepoplfbgaoggaaGreatDoorOnekh
set_option linter.defProp false
set_option linter.unusedSimpArgs false
set_option linter.unusedVariables false
namespace Go.Pv
open Go Go.RowKit
def T.deep:Nat->T->T
 | 0,t=>t
 | n+1,.sl _ rows=>.sl false (rows.map λr=>r.map (T.deep n))
 | _+1,.v (.slice none 0 0)=>.sl false []
 | _+1,.ne _=>.sl false []
 | n+1,.agg cs=>.agg (cs.map (T.deep n))
 | _+1,t=>t
def cS.deep {w:World} {own:Nat->Prop}:∀ (n:Nat) {t:T} {v:Value},cS w own t v->cS w own (T.deep n t) v:=by
 intro n
 induction n with
 | zero=>intro t v h;exact h
 | succ n ih =>
  intro t v h;unfold T.deep;split
  ·rename_i e;cases e
  ·rename_i n' f rows e;cases e;cases h with
   | dF _ a cap hf hn=>exact .dF false a cap (by simp) hn
   | sl _ _ sz b o cap g h1 h2 h3 h4 h45 h5 h6 h7 h8 =>
    have e1:(rows.map λr=>r.map (T.deep n)).length=rows.length:=by simp
    rw[<-e1];refine .sl false _ sz b o cap g (by rw[e1];exact h1) (by rw[e1];exact h2) (by simp) h4 h45 (λr hr=>?_) h6 (λi j hi hj=>h7 i j (by rw[e1] at hi;exact hi) hj) (λi j hi hj=>?_)
    ·obtain ⟨r',hr',rfl⟩:=List.mem_map.1 hr;rw[ae];exact h5 r' hr'
    ·simp only[List.getElem_map];exact ih (h8 i j (by simpa using hi) (by simpa using hj))
  ·rename_i e;cases e;cases h;exact .dF false none 0 (by simp) (by simp)
  ·rename_i e;cases e;cases h with
   | ne _ a cap hf=>exact .dF false (some a) cap (by simp) (by simp)
  ·rename_i n' cs e;cases e;cases h with
   | agg _ vs h1 h2=>exact .agg _ vs (by simpa using h1) λi hi=>by simpa using ih (h2 i (by simpa using hi))
  ·exact h
def gD {α:Type} (g:List T->Option α) (args:List T):Option α:=g (args.map (T.deep 4))
def aT.deep {P:Program} {f:FuncId} {g:List T->Option T} (h:aT P f g):aT P f (gD g):=⟨h.entry,λw own args vs r hG ho ha hr=>h.calls w own (args.map (T.deep 4)) vs r hG ho ⟨by simpa using ha.1,λi hi=>by
 have:=(ha.2 i (by simpa using hi)).deep 4;simpa using this⟩ hr⟩
end Go.Pv
