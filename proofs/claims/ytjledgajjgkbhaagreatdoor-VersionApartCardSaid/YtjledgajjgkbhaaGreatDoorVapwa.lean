/-
  The pure evaluator, part a: data without addresses, and how a value in a world reads as such data.
-/
import Derived.Still
import Derived.Below
import Derived.Laws.Cells
import Derived.ChangeAgain
set_option linter.defProp false
namespace Go.Pv
open Go Go.RowKit
inductive T where
 | v (x:Value)
 | agg (cs:List T)
 | bZ (vs:List T)
 | sl (full:Bool) (rows:List (List T))
 | ne (full:Bool)
 | ref (cs:List T)
 | fn (f:FuncId) (first cap:List T)
 | mp (es:List (Value×T))
 deriving Inhabited
inductive D where
 | p (t:T)
 | agg (cs:List D)
 | bZ (vs:List D)
 | ptr (k i j:Nat)
 | own (k:Nat)
 | bs (k off len:Nat)
 | map (k:Nat)
 | it (k:Nat)
 | fn (f:FuncId) (first cap:List D)
 | cond (g:Bool) (d:D)
 | any
 deriving Inhabited
structure Loc where
 bJ:Nat
 sz:Nat
 C:Nat
 e:TypeId
 L:Nat
inductive cN (w:World) (own:Nat→Prop):T→Value→Prop
 | v (x:Value):cN w own (.v x) x
 | agg (cs:List T) (vs:Array Value):vs.size=cs.length→(∀ i (h:i<cs.length),cN w own cs[i] (vs.getD i undef))→cN w own (.agg cs) (.agg vs)
 | bZ (cs:List T) (vs:Array Value):vs.size=cs.length→(∀ i (h:i<cs.length),cN w own cs[i] (vs.getD i undef))→cN w own (.bZ cs) (.tuple vs)
 | cQ (full:Bool) (a:Option Addr) (cap:Nat):(full=true→cap=0)→(a=none→cap=0)→cN w own (.sl full []) (.slice a 0 cap)
 | ne (full:Bool) (a:Addr) (cap:Nat):(full=true→cap=0)→cN w own (.ne full) (.slice (some a) 0 cap)
 | sl (full:Bool) (rows:List (List T)) (sz bJ off cap:Nat) (f:Nat→Nat→Value):rows.length≤cap→rows.length≤2 ^ 47→(full=true→cap=rows.length)→¬ own bJ→bJ<w.heap.size →
   (∀ r∈rows,r.length=sz)→0<sz→(∀ i j,i<rows.length→j<sz→w.cell? ⟨bJ,off+i*sz+j,none⟩=some (f i j)∧(f i j).oneCell'=true) →
   (∀ i j (hi:i<rows.length) (hj:j<rows[i].length),cN w own rows[i][j] (f i j))→cN w own (.sl full rows) (.slice (some ⟨bJ,off,none⟩) rows.length cap)
 | ref (cs:List T) (bJ off:Nat) (f:Nat→Value):¬ own bJ→bJ<w.heap.size→(∀ j,j<cs.length→w.cell? ⟨bJ,off+j,none⟩=some (f j)∧(f j).oneCell'=true) →
   (∀ j (hj:j<cs.length),cN w own cs[j] (f j))→cN w own (.ref cs) (.pointer (some ⟨bJ,off,none⟩))
 | fn (f:FuncId) (fs cs:List T) (va vb:Array Value):va.size=fs.length→vb.size=cs.length→(∀ i (h:i<fs.length),cN w own fs[i] (va.getD i undef)) →
   (∀ i (h:i<cs.length),cN w own cs[i] (vb.getD i undef))→cN w own (.fn f fs cs) (.func (.func f) va vb)
 | mp (es:List (Value×T)) (bJ:Nat) (ents:Array MapEntry) (f:Nat→MapEntry):¬ own bJ→bJ<w.heap.size→w.heap[bJ]? = some (.map ents es.length)→ents.size=es.length →
   (∀ i (h:i<es.length),ents[i]? = some (f i)∧(f i).key=es[i].1∧(f i).born=i)→(∀ i (h:i<es.length),cN w own es[i].2 (f i).val)→cN w own (.mp es) (.map (some bJ))
theorem R1 {w w':World} {b o:Nat} {u:Value} (h:w'.heap[b]? = w.heap[b]?) (hc:w.cell? ⟨b,o,none⟩=some u):w'.cell? ⟨b,o,none⟩=some u:=by rw[World.cell?_of_block (w:=w) h];exact hc
theorem cN.mono {w w':World} {own own':Nat→Prop} (hc:∀ b,¬ own b→b<w.heap.size→w'.heap[b]? = w.heap[b]?)
  (hz:w.heap.size≤w'.heap.size) (ho:∀ b,b<w.heap.size→¬ own b→¬ own' b) {d:T} {v:Value} (h:cN w own d v):cN w' own' d v:=by
 induction h with
 | v x=>exact .v x
 | agg cs vs hs _ ih=>exact .agg cs vs hs ih
 | bZ cs vs hs _ ih=>exact .bZ cs vs hs ih
 | cQ full a cap hf hn=>exact .cQ full a cap hf hn
 | ne full a cap hf=>exact .ne full a cap hf
 | sl full rows sz bJ off cap f h1 h2 h3 h4 h45 h5 h6 h7 _ ih =>
  exact .sl full rows sz bJ off cap f h1 h2 h3 (ho bJ h45 h4) (by omega) h5 h6 (fun i j hi hj=>⟨R1 (hc _ h4 h45) (h7 i j hi hj).1,(h7 i j hi hj).2⟩) ih
 | ref cs bJ off f h1 h15 h2 _ ih =>
  exact .ref cs bJ off f (ho bJ h15 h1) (by omega) (fun j hj=>⟨R1 (hc _ h1 h15) (h2 j hj).1,(h2 j hj).2⟩) ih
 | fn f fs cs va vb h1 h2 _ _ ih1 ih2=>exact .fn f fs cs va vb h1 h2 ih1 ih2
 | mp es bJ ents f h1 h2 h3 h4 h5 _ ih=>exact .mp es bJ ents f (ho bJ h2 h1) (by omega) ((hc _ h1 h2).trans h3) h4 h5 ih
inductive Rd (w:World) (own:Nat→Prop) (ρ:Nat→Option Loc):D→Value→Prop
 | p (t:T) (x:Value):cN w own t x→Rd w own ρ (.p t) x
 | agg (cs:List D) (vs:Array Value):vs.size=cs.length→(∀ i (h:i<cs.length),Rd w own ρ cs[i] (vs.getD i undef))→Rd w own ρ (.agg cs) (.agg vs)
 | bZ (cs:List D) (vs:Array Value):vs.size=cs.length→(∀ i (h:i<cs.length),Rd w own ρ cs[i] (vs.getD i undef))→Rd w own ρ (.bZ cs) (.tuple vs)
 | ptr (k i j:Nat) (l:Loc):ρ k=some l→Rd w own ρ (.ptr k i j) (.pointer (some ⟨l.bJ,i*l.sz+j,none⟩))
 | own (k:Nat) (l:Loc):ρ k=some l→0<l.L+l.C→l.L≤l.C→l.C≤maxLen→Rd w own ρ (.own k) (.slice (some ⟨l.bJ,0,none⟩) l.L l.C)
 | c0 (k:Nat) (l:Loc) (a:Option Addr):ρ k=some l→l.L+l.C=0→Rd w own ρ (.own k) (.slice a 0 0)
 | bs (k off len:Nat) (l:Loc):ρ k=some l→off+len≤l.C→l.C≤maxLen→Rd w own ρ (.bs k off len) (.slice (some ⟨l.bJ,off*l.sz,none⟩) len (l.C-off))
 | map (k:Nat) (l:Loc):ρ k=some l→Rd w own ρ (.map k) (.map (some l.bJ))
 | it (k:Nat) (l:Loc):ρ k=some l→Rd w own ρ (.it k) (.pointer (some ⟨l.bJ,0,none⟩))
 | fn (f:FuncId) (fs cs:List D) (va vb:Array Value):va.size=fs.length→vb.size=cs.length→(∀ i (h:i<fs.length),Rd w own ρ fs[i] (va.getD i undef)) →
   (∀ i (h:i<cs.length),Rd w own ρ cs[i] (vb.getD i undef))→Rd w own ρ (.fn f fs cs) (.func (.func f) va vb)
 | rL (d:D) (v:Value):Rd w own ρ d v→Rd w own ρ (.cond true d) v
 | AZ (d:D):Rd w own ρ (.cond false d) undef
 | any (v:Value):Rd w own ρ .any v
theorem Rd.mono {w w':World} {own own':Nat→Prop} {ρ ρ':Nat→Option Loc} (hc:∀ b,¬ own b→b<w.heap.size→w'.heap[b]? = w.heap[b]?)
  (hz:w.heap.size≤w'.heap.size) (ho:∀ b,b<w.heap.size→¬ own b→¬ own' b) (hρ:∀ k l,ρ k=some l→ρ' k=some l) {d:D} {v:Value} (h:Rd w own ρ d v):Rd w' own' ρ' d v:=by
 induction h with
 | p t x h=>exact .p t x (h.mono hc hz ho)
 | agg cs vs hs _ ih=>exact .agg cs vs hs ih
 | bZ cs vs hs _ ih=>exact .bZ cs vs hs ih
 | ptr k i j l h=>exact .ptr k i j l (hρ _ _ h)
 | own k l h h0 h2 h3=>exact .own k l (hρ _ _ h) h0 h2 h3
 | c0 k l a h h0=>exact .c0 k l a (hρ _ _ h) h0
 | bs k off len l h h2 h3=>exact .bs k off len l (hρ _ _ h) h2 h3
 | map k l h=>exact .map k l (hρ _ _ h)
 | it k l h=>exact .it k l (hρ _ _ h)
 | fn f fs cs va vb h1 h2 _ _ ih1 ih2=>exact .fn f fs cs va vb h1 h2 ih1 ih2
 | rL d v _ ih=>exact .rL d v ih
 | AZ d=>exact .AZ d
 | any v=>exact .any v
def cZ {α:Type} (R:α→Value→Prop) (cs:List α) (vs:Array Value):Prop:=vs.size=cs.length∧∀ i (h:i<cs.length),R cs[i] (vs.getD i undef)
section
variable {α β : Type} {R : α → Value → Prop}
theorem cZ.imp {R':α→Value→Prop} {cs:List α} {vs:Array Value} (h:cZ R cs vs) (hi:∀ d v,R d v→R' d v):cZ R' cs vs:=⟨h.1,fun i hl=>hi _ _ (h.2 i hl)⟩
theorem cZ.nil:cZ R [] #[]:=⟨rfl,fun i h=>by simp at h⟩
theorem cZ.one {d:α} {v:Value} (h:R d v):cZ R [d] #[v]:=⟨rfl,fun i hi=>by
 have:i=0:=by simpa using hi
 subst this;simpa using h⟩
theorem cZ.append {cs ds:List α} {us vs:Array Value} (h:cZ R cs us) (h':cZ R ds vs):cZ R (cs++ds) (us++vs):=by
 refine ⟨by simp[h.1,h'.1],fun i hi=>?_⟩
 simp only[List.length_append] at hi
 by_cases hl:i<cs.length
 ·have h1:=h.2 i hl
  have h2:i<us.size:=by rw[h.1];exact hl
  simp only[Array.getD_eq_getD_getElem?,Array.getElem?_append_left h2] at h1 ⊢
  simp_all
 ·have h1:=h'.2 (i-cs.length) (by omega)
  have h2:us.size≤i:=by rw[h.1];omega
  simp only[Array.getD_eq_getD_getElem?,Array.getElem?_append_right h2,h.1] at h1 ⊢
  grind
theorem cZ.extract {cs:List α} {us:Array Value} (h:cZ R cs us) (a n:Nat) (hn:a+n≤cs.length):cZ R ((cs.drop a).take n) (us.extract a (a+n)):=by
 refine ⟨by simp[h.1];omega,fun i hi=>?_⟩
 simp at hi
 have h1:=h.2 (a+i) (by omega)
 simp only[Array.getD_eq_getD_getElem?,Array.getElem?_extract] at h1 ⊢
 rw[if_pos (by rw[h.1];omega)]
 simp_all
theorem cZ.set {cs:List α} {us:Array Value} (h:cZ R cs us) (i:Nat) {d:α} {v:Value} (hd:R d v):cZ R (cs.set i d) (us.setIfInBounds i v):=by
 refine ⟨by simp[h.1],fun j hj=>?_⟩
 simp at hj
 have h1:=h.2 j hj
 simp only[Array.getD_eq_getD_getElem?,Array.getElem?_setIfInBounds,List.getElem_set] at h1 ⊢
 by_cases e:i=j
 ·subst e;rw[if_pos rfl,if_pos rfl,if_pos (by rw[h.1];exact hj)];simpa using hd
 ·simp_all
theorem cZ.get? {cs:List α} {us:Array Value} (h:cZ R cs us) {i:Nat} {d:α} (hd:cs[i]? = some d):∃ v,us[i]? = some v∧R d v:=by
 obtain ⟨hi,rfl⟩:=List.getElem?_eq_some_iff.1 hd
 have h2:i<us.size:=by rw[h.1];exact hi
 have:=h.2 i hi
 simp_all
theorem cZ.map {R':β→Value→Prop} {cs:List α} {vs:Array Value} (g:α→β) (h:cZ R cs vs) (hg:∀ d v,R d v→R' (g d) v):cZ R' (cs.map g) vs :=
 ⟨by simp[h.1],fun i hi=>by
  have:=h.2 i (by simpa using hi)
  simpa using hg _ _ this⟩
theorem cZ.vs {g:Value→α} (hg:∀ v,R (g v) v) (vs:Array Value):cZ R (vs.toList.map g) vs:=⟨by simp,fun i hi=>by
 have h':i<vs.size:=by simpa using hi
 simp only[List.getElem_map,Array.getElem_toList,Array.getD,h',dite_true];exact hg _⟩
end
def T.cells:T→List T
 | .agg cs=>cs
 | .v (.agg vs)=>vs.toList.map .v
 | d=>[d]
def D.cells:D→List D
 | .agg cs=>cs
 | .p t=>t.cells.map .p
 | .cond _ _=>[]
 | .any=>[]
 | d=>[d]
def T.leaf:T→Bool
 | .agg _=>false
 | .bZ _=>false
 | .v x=>x.oneCell'
 | _=>true
def D.leaf:D→Bool
 | .agg _=>false
 | .bZ _=>false
 | .p t=>t.leaf
 | .cond _ _=>false
 | .any=>false
 | _=>true
section
variable {w : World} {own : Nat → Prop} {ρ : Nat → Option Loc}
theorem cN.cells {d:T} {v:Value} (h:cN w own d v):cZ (cN w own) d.cells v.cells:=by
 cases h with
 | v=>cases v<;>first|exact cZ.vs .v _|exact cZ.one (.v _)
 | agg cs vs h1 h2=>exact ⟨h1,h2⟩
 | bZ cs vs h1 h2=>exact cZ.one (.bZ _ _ h1 h2)
 | cQ full a cap hf hn=>exact cZ.one (.cQ full a cap hf hn)
 | ne full a cap hf=>exact cZ.one (.ne full a cap hf)
 | sl full rows sz bJ off cap f h1 h2 h3 h4 h45 h5 h6 h7 h8=>exact cZ.one (.sl full rows sz bJ off cap f h1 h2 h3 h4 h45 h5 h6 h7 h8)
 | ref cs bJ off f h1 h2 h3 h4=>exact cZ.one (.ref cs bJ off f h1 h2 h3 h4)
 | fn f fs cs va vb h1 h2 h3 h4=>exact cZ.one (.fn f fs cs va vb h1 h2 h3 h4)
 | mp es bJ ents f h1 h2 h3 h4 h5 h6=>exact cZ.one (.mp es bJ ents f h1 h2 h3 h4 h5 h6)
theorem Rd.cells {d:D} {v:Value} (h:Rd w own ρ d v) (hne:d.cells≠[]):cZ (Rd w own ρ) d.cells v.cells:=by
 cases h with
 | p t _ h=>exact h.cells.map _ fun _ _ h=>.p _ _ h
 | agg cs vs h1 h2=>exact ⟨h1,h2⟩
 | bZ cs vs h1 h2=>exact cZ.one (.bZ _ _ h1 h2)
 | ptr k i j l h=>exact cZ.one (.ptr k i j l h)
 | own k l h h0 h2 h3=>exact cZ.one (.own k l h h0 h2 h3)
 | c0 k l a h h0=>exact cZ.one (.c0 k l a h h0)
 | bs k off len l h h2 h3=>exact cZ.one (.bs k off len l h h2 h3)
 | map k l h=>exact cZ.one (.map k l h)
 | it k l h=>exact cZ.one (.it k l h)
 | fn f fs cs va vb h1 h2 h3 h4=>exact cZ.one (.fn f fs cs va vb h1 h2 h3 h4)
 | rL d _ h=>exact absurd rfl hne
 | AZ d=>exact absurd rfl hne
 | any v=>exact absurd rfl hne
theorem cN.leaf {d:T} {v:Value} (h:cN w own d v) (hl:d.leaf=true):v.oneCell'=true:=by
 cases h<;>first|rfl|exact hl|(simp[T.leaf] at hl)
theorem Rd.leaf {d:D} {v:Value} (h:Rd w own ρ d v) (hl:d.leaf=true):v.oneCell'=true:=by
 cases h with
 | p t _ h=>exact h.leaf hl
 | _=>first|rfl|(simp[D.leaf] at hl)
end
inductive bB where
 | rows (ro:Bool) (rs:List (List D))
 | arr (ro:Bool) (z:Nat) (rows:List (List T))
 | map (ro:Bool) (es:List (Value×D))
 | kT (s:ByteArray) (pos:Nat)
 | nJ (m:Option Nat) (since:Nat) (seen:List Nat) (last:Nat)
 | cD (es:List (Value×T)) (since:Nat) (seen:List Nat) (last:Nat)
 | held
def aU (rows:List (List T)):List (List D):=rows.map (·.map .p)
@[simp] theorem bU (rows:List (List T)):(aU rows).length=rows.length:=by simp[aU]
theorem pRows_get? (rows:List (List T)) (i:Nat):(aU rows)[i]? = (rows[i]?).map (·.map .p):=by simp[aU]
@[simp] theorem A64 {rows:List (List T)}:aU rows=[]↔rows=[]:=by simp[aU]
def gM:bB→Bool
 | .rows ro _=>!ro
 | .arr ro _ _=>!ro
 | .map ro _=>!ro
 | .held=>false
 | _=>true
def eC:bB→Option (List (List D))
 | .rows _ rs=>some rs
 | .arr _ _ rows=>some (aU rows)
 | _=>none
structure LP (w:World) (own:Nat→Prop) (ρ:Nat→Option Loc) (l:Loc) (rs:List (List D)) (c:Array Value):Prop where
 size:c.size=l.C*l.sz
 pos:0<l.sz
 small:rs.length≤2 ^ 47
 len:rs.length≤l.C
 VU:rs.length=l.L
 width:∀ r∈rs,r.length=l.sz
 cell:∀ i j (hi:i<rs.length) (hj:j<rs[i].length),∃ v,c[i*l.sz+j]? = some v∧Rd w own ρ rs[i][j] v
 one:∀ (p:Nat) (v:Value),c[p]? = some v→v.oneCell'=true
inductive dV (w:World) (own:Nat→Prop) (ρ:Nat→Option Loc) (l:Loc):Obj→bB→Prop
 | rows (x:bB) (rs:List (List D)) (c:Array Value):eC x=some rs→(∀ ro z rows,x = .arr ro z rows→l.sz=z)→LP w own ρ l rs c→dV w own ρ l (.cells c l.e (0,0)) x
 | map (ro:Bool) (es:List (Value×D)) (ents:Array MapEntry):ents.size=es.length→(∀ i (h:i<es.length),∃ e,ents[i]? = some e∧e.key=es[i].1∧e.born=i∧Rd w own ρ es[i].2 e.val) →
   dV w own ρ l (.map ents es.length) (.map ro es)
 | kT (s:ByteArray) (pos:Nat):dV w own ρ l (.stringIter s pos) (.kT s pos)
 | nJ (m:Nat) (l':Loc) (since:Nat) (seen:List Nat) (last:Nat):ρ m=some l'→dV w own ρ l (.mapIter (some l'.bJ) since seen.toArray last) (.nJ (some m) since seen last)
 | sE:dV w own ρ l (.mapIter none 0 #[] 0) (.nJ none 0 [] 0)
 | cD (es:List (Value×T)) (bJ:Nat) (since:Nat) (seen:List Nat) (last:Nat):cN w own (.mp es) (.map (some bJ))→dV w own ρ l (.mapIter (some bJ) since seen.toArray last) (.cD es since seen last)
 | held (o:Obj):dV w own ρ l o .held
theorem dV.mono {w w':World} {own own':Nat→Prop} {ρ ρ':Nat→Option Loc} (hc:∀ b,¬ own b→b<w.heap.size→w'.heap[b]? = w.heap[b]?)
  (hz:w.heap.size≤w'.heap.size) (ho:∀ b,b<w.heap.size→¬ own b→¬ own' b) (hρ:∀ k l,ρ k=some l→ρ' k=some l) {l:Loc} {o:Obj} {x:bB} (h:dV w own ρ l o x):dV w' own' ρ' l o x:=by
 cases h with
 | rows _ rs c hr hz0 h=>exact .rows x rs c hr hz0 ⟨h.size,h.pos,h.small,h.len,h.VU,h.width,fun i j hi hj=>let ⟨v,h1,h2⟩:=h.cell i j hi hj;⟨v,h1,h2.mono hc hz ho hρ⟩,h.one⟩
 | map ro es ents h1 h2=>exact .map ro es ents h1 (fun i hi=>let ⟨e,a,b,b',c⟩:=h2 i hi;⟨e,a,b,b',c.mono hc hz ho hρ⟩)
 | kT s pos=>exact .kT s pos
 | nJ m l' since seen last h=>exact .nJ m l' since seen last (hρ _ _ h)
 | sE=>exact .sE
 | cD es bJ since seen last h=>exact .cD es bJ since seen last (h.mono hc hz ho)
 | held o=>exact .held o
def fF (w:World) (own:Nat→Prop) (ρ:Nat→Option Loc) (l:Loc) (x:bB):Prop :=
 (0<l.L+l.C→∃ o,w.heap[l.bJ]? = some o∧dV w own ρ l o x)∧(l.L+l.C=0→∃ ro z,x = .arr ro z [])
theorem fF.mono {w w':World} {own own':Nat→Prop} {ρ ρ':Nat→Option Loc} (hc:∀ b,¬ own b→b<w.heap.size→w'.heap[b]? = w.heap[b]?)
  (hz:w.heap.size≤w'.heap.size) (ho:∀ b,b<w.heap.size→¬ own b→¬ own' b) (hρ:∀ k l,ρ k=some l→ρ' k=some l) {l:Loc} (hat:0<l.L+l.C→w'.heap[l.bJ]? = w.heap[l.bJ]?) {x:bB} (h:fF w own ρ l x):fF w' own' ρ' l x :=
 ⟨fun hL=>let ⟨o,h1,h2⟩:=h.1 hL;⟨o,(hat hL).trans h1,h2.mono hc hz ho hρ⟩,h.2⟩
structure Cx where
 P:Program
 own:Nat→Prop
 w0:World
 ρb:Nat→Option Loc
 σb:Nat→Option bB
 wb:World
 arg:List Nat
def bL (cx:Cx) (ρ:Nat→Option Loc) (σ:Nat→Option bB) (b:Nat):Prop:=cx.own b∨∃ k l x,σ k=some x∧ρ k=some l∧0<l.L+l.C∧l.bJ=b
structure wS (a:List Nat) (B:Nat) (w w':World):Prop where
 os:w'.os=w.os
 tape:w'.tape=w.tape
 output:w'.output=w.output
 size:w.heap.size≤w'.heap.size
 block:∀ k,k<B→¬ k∈a→w'.heap[k]? = w.heap[k]?
theorem B4 {a:List Nat} {B:Nat} {w w':World} (h:Below B w w'):wS a B w w':=⟨h.os,h.tape,h.output,h.size,fun k hk _=>h.block k hk⟩
theorem wS.toB {B:Nat} {w w':World} (h:wS [] B w w'):Below B w w':=⟨h.os,h.tape,h.output,h.size,fun k hk=>h.block k hk (fun e=>by cases e)⟩
theorem wS.trans {a:List Nat} {B:Nat} {u v w:World} (h:wS a B u v) (k:wS a B v w):wS a B u w :=
 ⟨k.os.trans h.os,k.tape.trans h.tape,k.output.trans h.output,Nat.le_trans h.size k.size,fun i hi ha=>(k.block i hi ha).trans (h.block i hi ha)⟩
structure Inv (cx:Cx) (ρ:Nat→Option Loc) (σ:Nat→Option bB) (n:Nat) (w:World):Prop where
 boxes:∀ k x,σ k=some x→∃ l,ρ k=some l∧fF w (bL cx ρ σ) ρ l x
 inj:∀ k k' x x' l l',σ k=some x→σ k'=some x'→ρ k=some l→ρ k'=some l'→0<l.L+l.C→0<l'.L+l'.C→l.bJ=l'.bJ→k=k'
 new:∀ k l,ρ k=some l→k<n∧(0<l.L+l.C→l.bJ<w.heap.size∧¬ cx.own l.bJ)
 q7:∀ k x l,σ k=some x→ρ k=some l→0<l.L+l.C→gM x=true→cx.w0.heap.size≤l.bJ∨l.bJ∈cx.arg
 below:wS cx.arg cx.w0.heap.size cx.w0 w
 jY:∀ b,cx.own b→b<cx.w0.heap.size
 low:cx.P.low≤cx.w0.heap.size∧∀ a,a∈cx.arg→cx.P.low≤a
theorem Inv.TE {cx:Cx} {ρ:Nat→Option Loc} {σ:Nat→Option bB} {n:Nat} {w:World} (h:Inv cx ρ σ n w) (ha:cx.arg=[]) (k:Nat) (x:bB) (l:Loc) (h1:σ k=some x) (h2:ρ k=some l) (h3:0<l.L+l.C) (h4:gM x=true):cx.w0.heap.size≤l.bJ :=
 (h.q7 k x l h1 h2 h3 h4).elim id fun e=>by rw[ha] at e;cases e
theorem Inv.loc {cx:Cx} {ρ:Nat→Option Loc} {σ:Nat→Option bB} {n:Nat} {w:World} (h:Inv cx ρ σ n w) {k:Nat} {x:bB} (hk:σ k=some x) (hx:∀ ro z,x≠.arr ro z []) :
  ∃ l,ρ k=some l∧0<l.L+l.C∧∃ o,w.heap[l.bJ]? = some o∧dV w (bL cx ρ σ) ρ l o x:=by
 obtain ⟨l,hl,hb⟩:=h.boxes k x hk
 have hL:0<l.L+l.C:=by
  rcases Nat.eq_zero_or_pos (l.L+l.C) with h0|h0
  ·obtain ⟨ro,z,e⟩:=hb.2 h0
   exact absurd e (hx ro z)
  ·exact h0
 exact ⟨l,hl,hL,hb.1 hL⟩
structure St where
 s:Nat→D
 σ:Nat→Option bB
 n:Nat
def bY {α:Type} (f:Nat→α) (i:Nat) (x:α):Nat→α:=fun j=>if j=i then x else f j
@[simp] theorem fC {α:Type} (f:Nat→α) (i:Nat) (x:α):bY f i x i=x:=by simp[bY]
theorem bK {α:Type} (f:Nat→α) {i j:Nat} (x:α) (h:j≠i):bY f i x j=f j:=by simp[bY,h]
theorem GG {α:Type} (f:Nat→α) {i j:Nat} (x y:α) (h:i≠j):bY (bY f i x) j y=bY (bY f j y) i x:=by
 funext k;simp only[bY];by_cases h1:k=i<;>by_cases h2:k=j<;>simp_all
theorem cN.grow {w w':World} {own:Nat→Prop} (hb:Below w.heap.size w w') {d:T} {v:Value} (h:cN w own d v):cN w' own d v :=
 h.mono (fun b _ hlt=>hb.block b hlt) hb.size (fun _ _ h=>h)
theorem Rd.grow {w w':World} {own:Nat→Prop} {ρ:Nat→Option Loc} (hb:Below w.heap.size w w') {d:D} {v:Value} (h:Rd w own ρ d v):Rd w' own ρ d v :=
 h.mono (fun b _ hlt=>hb.block b hlt) hb.size (fun _ _ h=>h) (fun _ _ h=>h)
theorem fF.grow {w w':World} {own:Nat→Prop} {ρ:Nat→Option Loc} (hb:Below w.heap.size w w') {l:Loc} (hl:0<l.L+l.C→l.bJ<w.heap.size) {x:bB} (h:fF w own ρ l x):fF w' own ρ l x :=
 h.mono (fun b _ hlt=>hb.block b hlt) hb.size (fun _ _ h=>h) (fun _ _ h=>h) (fun hL=>hb.block _ (hl hL))
theorem Inv.grow {cx:Cx} {ρ:Nat→Option Loc} {σ:Nat→Option bB} {n n':Nat} {w w':World} (h:Inv cx ρ σ n w) (hb:Below w.heap.size w w') (hn:n≤n'):Inv cx ρ σ n' w':=by
 refine ⟨fun k x hk=>?_,h.inj,fun k l hk=>?_,h.q7,?_,h.jY,h.low⟩
 ·obtain ⟨l,hl,hx⟩:=h.boxes k x hk
  exact ⟨l,hl,hx.grow hb fun hL=>((h.new k l hl).2 hL).1⟩
 ·obtain ⟨h1,h2⟩:=h.new k l hk
  have:=hb.size
  exact ⟨by omega,fun hL=>⟨by have:=(h2 hL).1;omega,(h2 hL).2⟩⟩
 ·exact h.below.trans (B4 (hb.mono (h.below.size)))
theorem bL.lt {cx:Cx} {ρ:Nat→Option Loc} {σ:Nat→Option bB} {n:Nat} {w:World} (h:Inv cx ρ σ n w) {b:Nat} (ho:bL cx ρ σ b):b<w.heap.size:=by
 rcases ho with h1|⟨k,l,x,_,h2,hL,rfl⟩
 ·have:=h.jY b h1;have:=h.below.size;omega
 ·exact ((h.new k l h2).2 hL).1
structure bO (cx:Cx) (ρ ρ':Nat→Option Loc) (σ σ':Nat→Option bB) (w w':World):Prop where
 cell:∀ b,¬ bL cx ρ σ b→b<w.heap.size→w'.heap[b]? = w.heap[b]?
 size:w.heap.size≤w'.heap.size
 own:∀ b,b<w.heap.size→¬ bL cx ρ σ b→¬ bL cx ρ' σ' b
 loc:∀ k l,ρ k=some l→ρ' k=some l
 shape:∀ b y,w.shape? b=some y→w'.shape? b=some y
 ro:∀ k x,σ k=some x→gM x=false→∃ x',σ' k=some x'∧gM x'=false
theorem rV {w w':World} (hb:Below w.heap.size w w'):∀ b y,w.shape? b=some y→w'.shape? b=some y:=by
 intro b y hy
 have hlt:b<w.heap.size:=by
  rcases Nat.lt_or_ge b w.heap.size with h|h
  ·exact h
  ·simp[World.shape?,Array.getElem?_eq_none h] at hy
 simp only[World.shape?,hb.block b hlt] at hy ⊢
 exact hy
theorem TZ {w w':World} {k:Nat} (ho:∀ b,b≠k→w'.heap[b]? = w.heap[b]?) (hk:∀ y,w.shape? k=some y→w'.shape? k=some y):∀ b y,w.shape? b=some y→w'.shape? b=some y:=by
 intro b y hy
 by_cases e:b=k
 ·subst e;exact hk y hy
 ·simp only[World.shape?,ho b e] at hy ⊢;exact hy
theorem bO.refl (cx:Cx) (ρ:Nat→Option Loc) (σ:Nat→Option bB) (w:World):bO cx ρ ρ σ σ w w:=⟨fun _ _ _=>rfl,Nat.le_refl _,fun _ _ h=>h,fun _ _ h=>h,fun _ _ h=>h,fun _ x h hx=>⟨x,h,hx⟩⟩
theorem bO.gV {cx:Cx} {ρ:Nat→Option Loc} {σ:Nat→Option bB} {w w':World} (hb:Below w.heap.size w w'):bO cx ρ ρ σ σ w w' :=
 ⟨fun b _ hlt=>hb.block b hlt,hb.size,fun _ _ h=>h,fun _ _ h=>h,rV hb,fun _ x h hx=>⟨x,h,hx⟩⟩
theorem bO.rd {cx:Cx} {ρ ρ':Nat→Option Loc} {σ σ':Nat→Option bB} {w w':World} (h:bO cx ρ ρ' σ σ' w w') {d:D} {v:Value} (hd:Rd w (bL cx ρ σ) ρ d v):Rd w' (bL cx ρ' σ') ρ' d v :=
 hd.mono h.cell h.size h.own h.loc
theorem bO.trans {cx:Cx} {ρ ρ' ρ'':Nat→Option Loc} {σ σ' σ'':Nat→Option bB} {w w' w'':World} (h:bO cx ρ ρ' σ σ' w w') (h':bO cx ρ' ρ'' σ' σ'' w' w'')
  (hlt:∀ b o u,w.cell? ⟨b,o,none⟩=some u→b<w.heap.size):bO cx ρ ρ'' σ σ'' w w'' :=
 ⟨fun b hb hlt=>(h'.cell b (h.own b hlt hb) (by have:=h.size;omega)).trans (h.cell b hb hlt),Nat.le_trans h.size h'.size,fun b hb hn=>h'.own b (by have:=h.size;omega) (h.own b hb hn),fun k l hk=>h'.loc k l (h.loc k l hk),fun b y hy=>h'.shape b y (h.shape b y hy),fun k x hk hx=>let ⟨x',a,b⟩:=h.ro k x hk hx;h'.ro k x' a b⟩
theorem bO.trans' {cx:Cx} {ρ ρ' ρ'':Nat→Option Loc} {σ σ' σ'':Nat→Option bB} {w w' w'':World} (h:bO cx ρ ρ' σ σ' w w') (h':bO cx ρ' ρ'' σ' σ'' w' w''):bO cx ρ ρ'' σ σ'' w w'' :=
 h.trans h' (fun b o _ hc=>World.block_lt_of_cell? w ⟨b,o,none⟩ hc)
def Good (P:Program) (w:World):Prop:=w.ShapedOpen P∧P.low≤w.heap.size
theorem Good.keep {P:Program} {w w':World} (h:Good P w) (hs:∀ b y,w.shape? b=some y→w'.shape? b=some y) (hb:∀ b,b<P.low→w'.heap[b]? = w.heap[b]?) (hz:w.heap.size≤w'.heap.size):Good P w':=by
 obtain ⟨hsh,hlow⟩:=h
 refine ⟨⟨fun g zero t hg hz=>?_,fun k hk1 hk2=>?_⟩,by omega⟩
 ·obtain ⟨cs,h1,h2,h3⟩:=hsh.1 g zero t hg hz
  have hl:g<P.low:=by
   rcases Nat.lt_or_ge g (begin P (fun _ _=>0) default).world.heap.size with h'|h'
   ·exact h'
   ·simp_all
  exact ⟨cs,(hb g hl).trans h1,h2,fun hbd=>Row.ok_of_shape (fun b x=>hs b x) (h3 hbd)⟩
 ·obtain ⟨o,o₀,h1,h2,h3⟩:=hsh.2 k hk1 hk2
  exact ⟨o,o₀,(hb k hk2).trans h1,h2,h3⟩
theorem Good.below {P:Program} {w w':World} (h:Good P w) (hb:Below w.heap.size w w'):Good P w' :=
 h.keep (rV hb) (fun b hl=>hb.block b (by have:=h.2;omega)) hb.size
theorem Inv.oW {cx:Cx} {ρ ρ':Nat→Option Loc} {σ σ':Nat→Option bB} {n n':Nat} {w w':World} (h:Inv cx ρ σ n w) (h':Inv cx ρ' σ' n' w') (hk:bO cx ρ ρ' σ σ' w w') (hg:Good cx.P w):Good cx.P w' :=
 hg.keep hk.shape (fun b hl=>(h'.below.block b (by have:=h.low.1;omega) (fun e=>by have:=h.low.2 _ e;omega)).trans (h.below.block b (by have:=h.low.1;omega) (fun e=>by have:=h.low.2 _ e;omega)).symm) hk.size
structure Rel (cx:Cx) (nt:Nat) (ρ:Nat→Option Loc) (st:St) (a:Act) (w:World):Prop where
 inv:Inv cx ρ st.σ st.n w
 nt:a.tmps.size=nt
 defers:a.defers=[]
 keeps:bO cx cx.ρb ρ cx.σb st.σ cx.wb w
 oW:Good cx.P w
 nD:∀ i,Rd w (bL cx ρ st.σ) ρ (st.s i) (a.tmps.getD i undef)
theorem Inv.AMI {cx:Cx} {ρ:Nat→Option Loc} {σ:Nat→Option bB} {n n' k:Nat} {w w':World} (h:Inv cx ρ σ n w) (hn':n≤n') (hk:k<n') (hne:∀ i l',ρ i=some l'→i≠k) (l:Loc) (x:bB) (hb:Below w.heap.size w w')
  (hl:0<l.L+l.C→w.heap.size≤l.bJ∧l.bJ<w'.heap.size) (hx:fF w' (fun b=>bL cx ρ σ b∨(0<l.L+l.C∧b=l.bJ)) (bY ρ k (some l)) l x) :
  Inv cx (bY ρ k (some l)) (bY σ k (some x)) n' w'∧bO cx ρ (bY ρ k (some l)) σ (bY σ k (some x)) w w':=by
 have hρ:∀ i l',ρ i=some l'→bY ρ k (some l) i=some l':=fun i l' hi=>by rw[bK _ _ (hne i l' hi)];exact hi
 have hσ:∀ i y,σ i=some y→i≠k:=fun i y hi=>by obtain ⟨l',h1,_⟩:=h.boxes i y hi;exact hne i l' h1
 have hown':∀ b,bL cx (bY ρ k (some l)) (bY σ k (some x)) b→bL cx ρ σ b∨(0<l.L+l.C∧b=l.bJ):=by
  intro b hc
  rcases hc with hc|⟨i,l',y,h1,h2,h3,h4⟩
  ·exact .inl (.inl hc)
  ·by_cases e:i=k
   ·subst e;simp at h2;subst h2;exact .inr ⟨h3,h4.symm⟩
   ·rw[bK _ _ e] at h1 h2;exact .inl (.inr ⟨i,l',y,h1,h2,h3,h4⟩)
 have hown:∀ b,b<w.heap.size→¬ bL cx ρ σ b→¬ bL cx (bY ρ k (some l)) (bY σ k (some x)) b:=by
  intro b hb hn hc
  rcases hown' b hc with hc|⟨hL,rfl⟩
  ·exact hn hc
  ·have:=(hl hL).1;omega
 have hc:∀ b,¬ bL cx ρ σ b→b<w.heap.size→w'.heap[b]? = w.heap[b]? := fun b _ hlt=>hb.block b hlt
 refine ⟨⟨fun i y hi=>?_,fun i i' y y' m m' h1 h2 h3 h4 hL hL' he=>?_,fun i m hm=>?_,fun i y m hi hm hL hw=>?_,h.below.trans (B4 (hb.mono h.below.size)),h.jY,h.low⟩,⟨hc,hb.size,hown,hρ,rV hb,fun i y hi hy=>⟨y,by rw[bK _ _ (hσ i y hi)];exact hi,hy⟩⟩⟩
 ·by_cases e:i=k
  ·subst e
   simp at hi
   subst hi
   exact ⟨l,by simp,hx.mono (fun _ _ _=>rfl) (Nat.le_refl _) (fun b _ hn hc=>hn (hown' b hc)) (fun _ _ h=>h) (fun _=>rfl)⟩
  ·rw[bK _ _ e] at hi
   obtain ⟨m,hm,h1⟩:=h.boxes i y hi
   exact ⟨m,hρ _ _ hm,h1.mono hc hb.size hown hρ fun hL=>hb.block _ ((h.new i m hm).2 hL).1⟩
 ·by_cases e:i=k
  ·by_cases e':i'=k
   ·omega
   ·subst e
    rw[bK _ _ e'] at h4
    simp at h3
    subst h3
    have:=((h.new i' m' h4).2 hL').1
    have:=(hl hL).1
    omega
  ·rw[bK _ _ e] at h1 h3
   by_cases e':i'=k
   ·subst e'
    simp at h4
    subst h4
    have:=((h.new i m h3).2 hL).1
    have:=(hl hL').1
    omega
   ·rw[bK _ _ e'] at h2 h4
    exact h.inj i i' y y' m m' h1 h2 h3 h4 hL hL' he
 ·by_cases e:i=k
  ·subst e
   simp at hm
   subst hm
   have:=h.below.size
   exact ⟨by omega,fun hL=>⟨(hl hL).2,fun ho=>by have:=h.jY _ ho;have:=(hl hL).1;omega⟩⟩
  ·rw[bK _ _ e] at hm
   have h1:=h.new i m hm
   have:=hb.size
   exact ⟨by omega,fun hL=>⟨by have:=(h1.2 hL).1;omega,(h1.2 hL).2⟩⟩
 ·by_cases e:i=k
  ·subst e
   simp at hm
   subst hm
   have:=h.below.size
   have:=(hl hL).1
   exact .inl (by omega)
  ·rw[bK _ _ e] at hi hm
   exact h.q7 i y m hi hm hL hw
theorem Inv.lW {cx:Cx} {ρ:Nat→Option Loc} {σ:Nat→Option bB} {n k:Nat} {w w':World} (h:Inv cx ρ σ n w) (hk:n≤k) (l:Loc) (x:bB) (hb:Below w.heap.size w w')
  (hl:0<l.L+l.C→w.heap.size≤l.bJ∧l.bJ<w'.heap.size) (hx:fF w' (fun b=>bL cx ρ σ b∨(0<l.L+l.C∧b=l.bJ)) (bY ρ k (some l)) l x) :
  Inv cx (bY ρ k (some l)) (bY σ k (some x)) (k+1) w'∧bO cx ρ (bY ρ k (some l)) σ (bY σ k (some x)) w w' :=
 h.AMI (by omega) (Nat.lt_succ_self k) (fun i l' hi e=>by have:=(h.new i l' hi).1;omega) l x hb hl hx
theorem Inv.QB {cx:Cx} {ρ:Nat→Option Loc} {σ:Nat→Option bB} {n n' k:Nat} {w w':World} (h:Inv cx ρ σ n w) (hn:n≤n') {x₀:bB} {l:Loc} (hk:σ k=some x₀) (hl:ρ k=some l) (hL:0<l.L+l.C) (hw:gM x₀=true) (o:Obj) (x:bB)
  (hos:w'.os=w.os) (htp:w'.tape=w.tape) (hout:w'.output=w.output) (hsz:w'.heap.size=w.heap.size) (hat:w'.heap[l.bJ]? = some o) (hother:∀ b,b≠l.bJ→w'.heap[b]? = w.heap[b]?) (hsh:∀ y,w.shape? l.bJ=some y→w'.shape? l.bJ=some y)
  (hx:dV w (bL cx ρ σ) ρ l o x) :
  Inv cx ρ (bY σ k (some x)) n' w'∧bO cx ρ ρ σ (bY σ k (some x)) w w':=by
 have hown:∀ b,¬ bL cx ρ σ b→¬ bL cx ρ (bY σ k (some x)) b:=by
  intro b hn hc
  rcases hc with hc|⟨i,l',y,h1,h2,h3,h4⟩
  ·exact hn (.inl hc)
  ·by_cases e:i=k
   ·subst e;exact hn (.inr ⟨i,l',x₀,hk,h2,h3,h4⟩)
   ·rw[bK _ _ e] at h1;exact hn (.inr ⟨i,l',y,h1,h2,h3,h4⟩)
 have hmine:bL cx ρ σ l.bJ:=.inr ⟨k,l,x₀,hk,hl,hL,rfl⟩
 have hc:∀ b,¬ bL cx ρ σ b→b<w.heap.size→w'.heap[b]? = w.heap[b]? := fun b hn _=>hother b fun e=>hn (e ▸ hmine)
 have hz:w.heap.size≤w'.heap.size:=by omega
 refine ⟨⟨fun i y hi=>?_,fun i i' y y' m m' h1 h2 h3 h4 hL hL' he=>?_,fun i m hm=>?_,fun i y m hi hm hLm hwy=>?_,?_,h.jY,h.low⟩,⟨hc,hz,fun b _=>hown b,fun _ _ h=>h,TZ hother hsh,fun i y hi hy=>⟨y,by rw[bK _ _ (fun e=>by subst e;rw[hk] at hi;cases hi;rw[hw] at hy;cases hy)];exact hi,hy⟩⟩⟩
 ·by_cases e:i=k
  ·subst e
   simp at hi
   subst hi
   exact ⟨l,hl,fun _=>⟨o,hat,hx.mono hc hz (fun b _=>hown b) (fun _ _ h=>h)⟩,fun h0=>by omega⟩
  ·rw[bK _ _ e] at hi
   obtain ⟨m,hm,h1⟩:=h.boxes i y hi
   refine ⟨m,hm,h1.mono hc hz (fun b _=>hown b) (fun _ _ h=>h) fun hLm=>hother _ fun eq=>e (h.inj i k y x₀ m l hi hk hm hl hLm hL eq)⟩
 ·have ex:∀ i y,bY σ k (some x) i=some y→∃ z,σ i=some z:=fun i y hi=>by
   by_cases e:i=k
   ·subst e;exact ⟨x₀,hk⟩
   ·rw[bK _ _ e] at hi;exact ⟨y,hi⟩
  obtain ⟨z,hz⟩:=ex _ _ h1
  obtain ⟨z',hz'⟩:=ex _ _ h2
  exact h.inj i i' z z' m m' hz hz' h3 h4 hL hL' he
 ·have h1:=h.new i m hm
  exact ⟨by omega,fun hL=>⟨by have:=(h1.2 hL).1;omega,(h1.2 hL).2⟩⟩
 ·by_cases e:i=k
  ·subst e
   rw[hl] at hm;cases hm
   exact h.q7 i x₀ l hk hl hL hw
  ·rw[bK _ _ e] at hi
   exact h.q7 i y m hi hm hLm hwy
 ·refine h.below.trans ⟨hos,htp,hout,by omega,fun b hb ha=>hother b ?_⟩
  rcases h.q7 k x₀ l hk hl hL hw with h1|h1
  ·omega
  ·intro e;subst e;exact ha h1
theorem Rel.put {cx:Cx} {nt:Nat} {ρ ρ':Nat→Option Loc} {st:St} {σ':Nat→Option bB} {n':Nat} {a:Act} {w w':World} (h:Rel cx nt ρ st a w) (hi:Inv cx ρ' σ' n' w') (hk:bO cx ρ ρ' st.σ σ' w w')
  {t:Tmp} {d:D} {v:Value} (ht:t<nt) (hd:Rd w' (bL cx ρ' σ') ρ' d v):Rel cx nt ρ' ⟨bY st.s t d,σ',n'⟩ (a.put (some t) v) w':=by
 refine ⟨hi,by simp[Act.put,h.nt],by simp[Act.put,h.defers],h.keeps.trans' hk,h.inv.oW hi hk h.oW,fun i=>?_⟩
 simp only[Act.put,Array.getD_eq_getD_getElem?,Array.getElem?_setIfInBounds]
 by_cases e:i=t
 ·subst e
  simp only[fC]
  simp only[if_true]
  rw[if_pos (by rw[h.nt];exact ht)]
  exact hd
 ·rw[bK _ _ e,if_neg (fun e'=>e e'.symm)]
  have:=h.nD i
  rw[Array.getD_eq_getD_getElem?] at this
  exact hk.rd this
theorem Rel.skip {cx:Cx} {nt:Nat} {ρ ρ':Nat→Option Loc} {st:St} {σ':Nat→Option bB} {n':Nat} {a:Act} {w w':World} (h:Rel cx nt ρ st a w) (hi:Inv cx ρ' σ' n' w') (hk:bO cx ρ ρ' st.σ σ' w w') (v:Value) :
  Rel cx nt ρ' ⟨st.s,σ',n'⟩ (a.put none v) w' :=
 ⟨hi,h.nt,h.defers,h.keeps.trans' hk,h.inv.oW hi hk h.oW,fun i=>hk.rd (h.nD i)⟩
end Go.Pv
