/-
  Nil slices deep within what is handed over.
-/
import Derived.Test.YtjledgajjgkbhaaGreatDoorVapkh
set_option linter.defProp false
set_option linter.unusedSimpArgs false
set_option linter.unusedVariables false
namespace Go.Pv
open Go Go.RowKit
def T.deep:Nat→T→T
 | 0,t=>t
 | n+1,.sl _ rows=>.sl false (rows.map fun r=>r.map (T.deep n))
 | _+1,.v (.slice none 0 0)=>.sl false []
 | _+1,.ne _=>.sl false []
 | n+1,.agg cs=>.agg (cs.map (T.deep n))
 | _+1,t=>t
theorem cN.deep {w:World} {own:Nat→Prop}:∀ (n:Nat) {t:T} {v:Value},cN w own t v→cN w own (T.deep n t) v:=by
 intro n
 induction n with
 | zero=>intro t v h;exact h
 | succ n ih =>
  intro t v h
  unfold T.deep
  split
  ·rename_i e;cases e
  ·rename_i n' f rows e
   cases e
   cases h with
   | cQ _ a cap hf hn=>exact .cQ false a cap (by simp) hn
   | sl _ _ sz b o cap g h1 h2 h3 h4 h45 h5 h6 h7 h8 =>
    have e1:(rows.map fun r=>r.map (T.deep n)).length=rows.length:=by simp
    rw[←e1]
    refine .sl false _ sz b o cap g (by rw[e1];exact h1) (by rw[e1];exact h2) (by simp) h4 h45 (fun r hr=>?_) h6 (fun i j hi hj=>h7 i j (by rw[e1] at hi;exact hi) hj) (fun i j hi hj=>?_)
    ·obtain ⟨r',hr',rfl⟩:=List.mem_map.1 hr
     rw[List.length_map];exact h5 r' hr'
    ·simp only[List.getElem_map]
     exact ih (h8 i j (by simpa using hi) (by simpa using hj))
  ·rename_i e;cases e;cases h;exact .cQ false none 0 (by simp) (by simp)
  ·rename_i e
   cases e
   cases h with
   | ne _ a cap hf=>exact .cQ false (some a) cap (by simp) (by simp)
  ·rename_i n' cs e
   cases e
   cases h with
   | agg _ vs h1 h2=>exact .agg _ vs (by simpa using h1) fun i hi=>by simpa using ih (h2 i (by simpa using hi))
  ·exact h
def gD {α:Type} (g:List T→Option α) (args:List T):Option α:=g (args.map (T.deep 4))
theorem aN.deep {P:Program} {f:FuncId} {g:List T→Option T} (h:aN P f g):aN P f (gD g):=⟨h.entry,fun w own args vs r hG ho ha hr=>h.calls w own (args.map (T.deep 4)) vs r hG ho ⟨by simpa using ha.1,fun i hi=>by
 have:=(ha.2 i (by simpa using hi)).deep 4
 simpa using this⟩ hr⟩
theorem w6:∀ (n:Nat) {r:Sy} (x:r.den),r.pure=true→(r.enc x).map (T.deep n)=r.enc x
 | n,.int k,x,_=>by cases n<;>rfl
 | n,.bool,x,_=>by cases n<;>rfl
 | n,.str,x,_=>by cases n<;>rfl
 | n,.any,x,h=>by cases h
 | n,.pr a b,x,h=>by
  simp only[Sy.pure,Bool.and_eq_true] at h
  show List.map (T.deep n) (a.enc x.1++b.enc x.2)=_
  rw[List.map_append,w6 n _ h.1,w6 n _ h.2];rfl
 | 0,.li a,x,h=>rfl
 | n+1,.li a,x,h=>by
  show [T.sl false ((List.map a.enc x).map fun r=>r.map (T.deep n))]=_
  rw[List.map_map]
  have:((fun r=>List.map (T.deep n) r)∘a.enc)=a.enc:=funext fun y=>w6 n y h
  rw[this];rfl
theorem HE (n:Nat) {ag:Bool} {r:Sy} (x:r.den) (hw:(ag||r.w == 1)=true) (h:r.pure=true):T.deep (n+1) (aF ag r x)=aF ag r x:=by
 cases ag with
 | true =>
  show T.agg ((r.enc x).map (T.deep n))=_
  rw[w6 n x h];rfl
 | false =>
  have hl:(r.enc x).length=1:=by rw[r.cP];simpa using hw
  have h1:=w6 (n+1) x h
  show T.deep (n+1) (hdT (r.enc x))=hdT (r.enc x)
  match hr:r.enc x,hl with
  | [t],_=>rw[hr] at h1;simpa [hdT] using h1
end Go.Pv
