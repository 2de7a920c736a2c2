/-
  The pure evaluator, part a: data without addresses, and how a value in a world reads as such data.
-/
import Derived.Still
import Derived.Below
import Derived.Laws.Cells
import Derived.ChangeAgain
set_option linter.defProp false
namespace Go.Pv
open Go Go.RowKit
abbrev iII:=ByteArray
variable {α β:Type}
def aa{f:α->β}{x:Option α}{b:β}:Option.map f x=some b↔∃ a,x=some a/\f a=b:=Option.map_eq_some_iff
def ac(a b:Bool):((a&&b)=true)=(a=true/\b=true):=Bool.and_eq_true a b
variable {l:List α}
def ae(f:α->β):(List.map f l).length=l.length:=List.length_map f
def ah{p:Prop}[Decidable p]:(decide p=true)=p:=decide_eq_true_eq
def ai{p:Prop}[Decidable p]:p->decide p=true:=decide_eq_true
def aj{p:Prop}[Decidable p]:¬p->decide p=false:=decide_eq_false
def ak{n:Nat}(h:n<l.length):l[n]∈l:=List.getElem_mem h
def al(n:Nat):n<=n:=Nat.le_refl n
def am{a:α}:a∈a::l:=List.mem_cons_self
inductive T where
 | v (x:Value)
 | agg (cs:List T)
 | cB (vs:List T)
 | sl (full:Bool) (rows:List (List T))
 | ne (full:Bool)
 | ref (cs:List T)
 | fn (f:FuncId) (first cap:List T)
 | mp (es:List (Value×T))
 deriving Inhabited
inductive D where
 | p (t:T)
 | agg (cs:List D)
 | cB (vs:List D)
 | ptr (k i j:Nat)
 | own (k:Nat)
 | bs (k off len:Nat)
 | map (k:Nat)
 | it (k:Nat)
 | fn (f:FuncId) (first cap:List D)
 | cond (g:Bool) (d:D)
 | any
 deriving Inhabited
structure Loc where
 bV:Nat
 sz:Nat
 C:Nat
 e:TypeId
 L:Nat
inductive cS (w:World) (own:Nat->Prop):T->Value->Prop
 | v (x:Value):cS w own (.v x) x
 | agg (cs:List T) (vs:Array Value):vs.size=cs.length->(∀ i (h:i<cs.length),cS w own cs[i] (vs.getD i undef))->cS w own (.agg cs) (.agg vs)
 | cB (cs:List T) (vs:Array Value):vs.size=cs.length->(∀ i (h:i<cs.length),cS w own cs[i] (vs.getD i undef))->cS w own (.cB cs) (.tuple vs)
 | dF (full:Bool) (a:Option Addr) (cap:Nat):(full=true->cap=0)->(a=none->cap=0)->cS w own (.sl full []) (.slice a 0 cap)
 | ne (full:Bool) (a:Addr) (cap:Nat):(full=true->cap=0)->cS w own (.ne full) (.slice (some a) 0 cap)
 | sl (full:Bool) (rows:List (List T)) (sz bV off cap:Nat) (f:Nat->Nat->Value):rows.length<=cap->rows.length<=2 ^ 47->(full=true->cap=rows.length)->¬ own bV->bV<w.heap.size ->
   (∀ r∈rows,r.length=sz)->0<sz->(∀ i j,i<rows.length->j<sz->w.cell? ⟨bV,off+i*sz+j,none⟩=some (f i j)/\(f i j).oneCell'=true) ->
   (∀ i j (hi:i<rows.length) (hj:j<rows[i].length),cS w own rows[i][j] (f i j))->cS w own (.sl full rows) (.slice (some ⟨bV,off,none⟩) rows.length cap)
 | ref (cs:List T) (bV off:Nat) (f:Nat->Value):¬ own bV->bV<w.heap.size->(∀ j,j<cs.length->w.cell? ⟨bV,off+j,none⟩=some (f j)/\(f j).oneCell'=true) ->
   (∀ j (hj:j<cs.length),cS w own cs[j] (f j))->cS w own (.ref cs) (.pointer (some ⟨bV,off,none⟩))
 | fn (f:FuncId) (fs cs:List T) (va vb:Array Value):va.size=fs.length->vb.size=cs.length->(∀ i (h:i<fs.length),cS w own fs[i] (va.getD i undef)) ->
   (∀ i (h:i<cs.length),cS w own cs[i] (vb.getD i undef))->cS w own (.fn f fs cs) (.func (.func f) va vb)
 | mp (es:List (Value×T)) (bV:Nat) (ents:Array MapEntry) (f:Nat->MapEntry):¬ own bV->bV<w.heap.size->w.heap[bV]? = some (.map ents es.length)->ents.size=es.length ->
   (∀ i (h:i<es.length),ents[i]? = some (f i)/\(f i).key=es[i].1/\(f i).born=i)->(∀ i (h:i<es.length),cS w own es[i].2 (f i).val)->cS w own (.mp es) (.map (some bV))
variable {w':World}
def Y5 {w:World} {b o:Nat} {u:Value} (h:w'.heap[b]? = w.heap[b]?) (hc:w.cell? ⟨b,o,none⟩=some u):w'.cell? ⟨b,o,none⟩=some u:=by rw[World.cell?_of_block (w:=w) h];exact hc
variable {own':Nat->Prop}
def cS.mono {w:World} {own:Nat->Prop} (hc:∀ b,¬ own b->b<w.heap.size->w'.heap[b]? = w.heap[b]?)
  (hz:w.heap.size<=w'.heap.size) (ho:∀ b,b<w.heap.size->¬ own b->¬ own' b) {d:T} {v:Value} (h:cS w own d v):cS w' own' d v:=by
 induction h with
 | v x=>exact .v x
 | agg cs vs hs _ ih=>exact .agg cs vs hs ih
 | cB cs vs hs _ ih=>exact .cB cs vs hs ih
 | dF full a cap hf hn=>exact .dF full a cap hf hn
 | ne full a cap hf=>exact .ne full a cap hf
 | sl full rows sz bV off cap f h1 h2 h3 h4 h45 h5 h6 h7 _ ih =>
  exact .sl full rows sz bV off cap f h1 h2 h3 (ho bV h45 h4) (by omega) h5 h6 (λi j hi hj=>⟨Y5 (hc _ h4 h45) (h7 i j hi hj).1,(h7 i j hi hj).2⟩) ih
 | ref cs bV off f h1 h15 h2 _ ih =>
  exact .ref cs bV off f (ho bV h15 h1) (by omega) (λj hj=>⟨Y5 (hc _ h1 h15) (h2 j hj).1,(h2 j hj).2⟩) ih
 | fn f fs cs va vb h1 h2 _ _ ih1 ih2=>exact .fn f fs cs va vb h1 h2 ih1 ih2
 | mp es bV ents f h1 h2 h3 h4 h5 _ ih=>exact .mp es bV ents f (ho bV h2 h1) (by omega) ((hc _ h1 h2).trans h3) h4 h5 ih
inductive Rd (w:World) (own:Nat->Prop) (ρ:Nat->Option Loc):D->Value->Prop
 | p (t:T) (x:Value):cS w own t x->Rd w own ρ (.p t) x
 | agg (cs:List D) (vs:Array Value):vs.size=cs.length->(∀ i (h:i<cs.length),Rd w own ρ cs[i] (vs.getD i undef))->Rd w own ρ (.agg cs) (.agg vs)
 | cB (cs:List D) (vs:Array Value):vs.size=cs.length->(∀ i (h:i<cs.length),Rd w own ρ cs[i] (vs.getD i undef))->Rd w own ρ (.cB cs) (.tuple vs)
 | ptr (k i j:Nat) (l:Loc):ρ k=some l->Rd w own ρ (.ptr k i j) (.pointer (some ⟨l.bV,i*l.sz+j,none⟩))
 | own (k:Nat) (l:Loc):ρ k=some l->0<l.L+l.C->l.L<=l.C->l.C<=maxLen->Rd w own ρ (.own k) (.slice (some ⟨l.bV,0,none⟩) l.L l.C)
 | eW (k:Nat) (l:Loc) (a:Option Addr):ρ k=some l->l.L+l.C=0->Rd w own ρ (.own k) (.slice a 0 0)
 | bs (k off len:Nat) (l:Loc):ρ k=some l->off+len<=l.C->l.C<=maxLen->Rd w own ρ (.bs k off len) (.slice (some ⟨l.bV,off*l.sz,none⟩) len (l.C-off))
 | map (k:Nat) (l:Loc):ρ k=some l->Rd w own ρ (.map k) (.map (some l.bV))
 | it (k:Nat) (l:Loc):ρ k=some l->Rd w own ρ (.it k) (.pointer (some ⟨l.bV,0,none⟩))
 | fn (f:FuncId) (fs cs:List D) (va vb:Array Value):va.size=fs.length->vb.size=cs.length->(∀ i (h:i<fs.length),Rd w own ρ fs[i] (va.getD i undef)) ->
   (∀ i (h:i<cs.length),Rd w own ρ cs[i] (vb.getD i undef))->Rd w own ρ (.fn f fs cs) (.func (.func f) va vb)
 | tM (d:D) (v:Value):Rd w own ρ d v->Rd w own ρ (.cond true d) v
 | EB (d:D):Rd w own ρ (.cond false d) undef
 | any (v:Value):Rd w own ρ .any v
variable {ρ ρ':Nat->Option Loc}
def Rd.mono {w:World} {own:Nat->Prop} (hc:∀ b,¬ own b->b<w.heap.size->w'.heap[b]? = w.heap[b]?)
  (hz:w.heap.size<=w'.heap.size) (ho:∀ b,b<w.heap.size->¬ own b->¬ own' b) (hρ:∀ k l,ρ k=some l->ρ' k=some l) {d:D} {v:Value} (h:Rd w own ρ d v):Rd w' own' ρ' d v:=by
 induction h with
 | p t x h=>exact .p t x (h.mono hc hz ho)
 | agg cs vs hs _ ih=>exact .agg cs vs hs ih
 | cB cs vs hs _ ih=>exact .cB cs vs hs ih
 | ptr k i j l h=>exact .ptr k i j l (hρ _ _ h)
 | own k l h h0 h2 h3=>exact .own k l (hρ _ _ h) h0 h2 h3
 | eW k l a h h0=>exact .eW k l a (hρ _ _ h) h0
 | bs k off len l h h2 h3=>exact .bs k off len l (hρ _ _ h) h2 h3
 | map k l h=>exact .map k l (hρ _ _ h)
 | it k l h=>exact .it k l (hρ _ _ h)
 | fn f fs cs va vb h1 h2 _ _ ih1 ih2=>exact .fn f fs cs va vb h1 h2 ih1 ih2
 | tM d v _ ih=>exact .tM d v ih
 | EB d=>exact .EB d
 | any v=>exact .any v
def dO (R:α->Value->Prop) (cs:List α) (vs:Array Value):Prop:=vs.size=cs.length/\∀ i (h:i<cs.length),R cs[i] (vs.getD i undef)
section
variable {α β : Type} {R : α -> Value -> Prop}
def dO.imp {R':α->Value->Prop} {cs:List α} {vs:Array Value} (h:dO R cs vs) (hi:∀ d v,R d v->R' d v):dO R' cs vs:=⟨h.1,λi hl=>hi _ _ (h.2 i hl)⟩
def dO.nil:dO R [] #[]:=⟨rfl,λi h=>by simp at h⟩
def dO.one {d:α} {v:Value} (h:R d v):dO R [d] #[v]:=⟨rfl,λi hi=>by
 have:i=0:=by simpa using hi
 subst this;simpa using h⟩
variable {us:Array Value}
def dO.append {cs ds:List α} {vs:Array Value} (h:dO R cs us) (h':dO R ds vs):dO R (cs++ds) (us++vs):=by
 refine ⟨by simp[h.1,h'.1],λi hi=>?_⟩;simp only[List.length_append] at hi;by_cases hl:i<cs.length
 ·have h1:=h.2 i hl;have h2:i<us.size:=by rw[h.1];exact hl
  simp only[Array.getD_eq_getD_getElem?,Array.getElem?_append_left h2] at h1 ⊢;simp_all
 ·have h1:=h'.2 (i-cs.length) (by omega);have h2:us.size<=i:=by rw[h.1];omega
  simp only[Array.getD_eq_getD_getElem?,Array.getElem?_append_right h2,h.1] at h1 ⊢
  grind
def dO.extract {cs:List α} (h:dO R cs us) (a n:Nat) (hn:a+n<=cs.length):dO R ((cs.drop a).take n) (us.extract a (a+n)):=by
 refine ⟨by simp[h.1];omega,λi hi=>?_⟩;simp at hi;have h1:=h.2 (a+i) (by omega);simp only[Array.getD_eq_getD_getElem?,Array.getElem?_extract] at h1 ⊢;rw[if_pos (by rw[h.1];omega)];simp_all
def dO.set {cs:List α} (h:dO R cs us) (i:Nat) {d:α} {v:Value} (hd:R d v):dO R (cs.set i d) (us.setIfInBounds i v):=by
 refine ⟨by simp[h.1],λj hj=>?_⟩;simp at hj;have h1:=h.2 j hj;simp only[Array.getD_eq_getD_getElem?,Array.getElem?_setIfInBounds,List.getElem_set] at h1 ⊢;by_cases e:i=j
 ·subst e;rw[if_pos rfl,if_pos rfl,if_pos (by rw[h.1];exact hj)];simpa using hd
 ·simp_all
def dO.get? {cs:List α} {us:Array Value} (h:dO R cs us) {i:Nat} {d:α} (hd:cs[i]? = some d):∃ v,us[i]? = some v/\R d v:=by
 obtain ⟨hi,rfl⟩:=List.getElem?_eq_some_iff.1 hd;have h2:i<us.size:=by rw[h.1];exact hi
 have:=h.2 i hi;simp_all
def dO.map {R':β->Value->Prop} {cs:List α} {vs:Array Value} (g:α->β) (h:dO R cs vs) (hg:∀ d v,R d v->R' (g d) v):dO R' (cs.map g) vs :=
 ⟨by simp[h.1],λi hi=>by
  have:=h.2 i (by simpa using hi);simpa using hg _ _ this⟩
def dO.vs {g:Value->α} (hg:∀ v,R (g v) v) (vs:Array Value):dO R (vs.toList.map g) vs:=⟨by simp,λi hi=>by
 have h':i<vs.size:=by simpa using hi
 simp only[List.getElem_map,Array.getElem_toList,Array.getD,h',dite_true];exact hg _⟩
end
def T.cells:T->List T
 | .agg cs=>cs
 | .v (.agg vs)=>vs.toList.map .v
 | d=>[d]
def D.cells:D->List D
 | .agg cs=>cs
 | .p t=>t.cells.map .p
 | .cond _ _=>[]
 | .any=>[]
 | d=>[d]
def T.leaf:T->Bool
 | .agg _=>false
 | .cB _=>false
 | .v x=>x.oneCell'
 | _=>true
def D.leaf:D->Bool
 | .agg _=>false
 | .cB _=>false
 | .p t=>t.leaf
 | .cond _ _=>false
 | .any=>false
 | _=>true
section
variable {w : World} {own : Nat -> Prop} {ρ : Nat -> Option Loc}
def cS.cells {d:T} {v:Value} (h:cS w own d v):dO (cS w own) d.cells v.cells:=by
 cases h with
 | v=>cases v<;>first|exact dO.vs .v _|exact dO.one (.v _)
 | agg cs vs h1 h2=>exact ⟨h1,h2⟩
 | cB cs vs h1 h2=>exact dO.one (.cB _ _ h1 h2)
 | dF full a cap hf hn=>exact dO.one (.dF full a cap hf hn)
 | ne full a cap hf=>exact dO.one (.ne full a cap hf)
 | sl full rows sz bV off cap f h1 h2 h3 h4 h45 h5 h6 h7 h8=>exact dO.one (.sl full rows sz bV off cap f h1 h2 h3 h4 h45 h5 h6 h7 h8)
 | ref cs bV off f h1 h2 h3 h4=>exact dO.one (.ref cs bV off f h1 h2 h3 h4)
 | fn f fs cs va vb h1 h2 h3 h4=>exact dO.one (.fn f fs cs va vb h1 h2 h3 h4)
 | mp es bV ents f h1 h2 h3 h4 h5 h6=>exact dO.one (.mp es bV ents f h1 h2 h3 h4 h5 h6)
def Rd.cells {d:D} {v:Value} (h:Rd w own ρ d v) (hne:d.cells≠[]):dO (Rd w own ρ) d.cells v.cells:=by
 cases h with
 | p t _ h=>exact h.cells.map _ λ_ _ h=>.p _ _ h
 | agg cs vs h1 h2=>exact ⟨h1,h2⟩
 | cB cs vs h1 h2=>exact dO.one (.cB _ _ h1 h2)
 | ptr k i j l h=>exact dO.one (.ptr k i j l h)
 | own k l h h0 h2 h3=>exact dO.one (.own k l h h0 h2 h3)
 | eW k l a h h0=>exact dO.one (.eW k l a h h0)
 | bs k off len l h h2 h3=>exact dO.one (.bs k off len l h h2 h3)
 | map k l h=>exact dO.one (.map k l h)
 | it k l h=>exact dO.one (.it k l h)
 | fn f fs cs va vb h1 h2 h3 h4=>exact dO.one (.fn f fs cs va vb h1 h2 h3 h4)
 | tM d _ h=>exact absurd rfl hne
 | EB d=>exact absurd rfl hne
 | any v=>exact absurd rfl hne
def cS.leaf {d:T} {v:Value} (h:cS w own d v) (hl:d.leaf=true):v.oneCell'=true:=by
 cases h<;>first|rfl|exact hl|(simp[T.leaf] at hl)
def Rd.leaf {d:D} {v:Value} (h:Rd w own ρ d v) (hl:d.leaf=true):v.oneCell'=true:=by
 cases h with
 | p t _ h=>exact h.leaf hl
 | _=>first|rfl|(simp[D.leaf] at hl)
end
inductive bL where
 | rows (ro:Bool) (rs:List (List D))
 | arr (ro:Bool) (z:Nat) (rows:List (List T))
 | map (ro:Bool) (es:List (Value×D))
 | mL (s:iII) (pos:Nat)
 | cF (es:List (Value×T)) (since:Nat) (seen:List Nat) (last:Nat)
 | held
def bK (rows:List (List T)):List (List D):=rows.map (·.map .p)
@[simp] def dL (rows:List (List T)):(bK rows).length=rows.length:=by simp[bK]
def pRows_get? (rows:List (List T)) (i:Nat):(bK rows)[i]? = (rows[i]?).map (·.map .p):=by simp[bK]
@[simp] def BJW {rows:List (List T)}:bK rows=[]↔rows=[]:=by simp[bK]
def iN:bL->Bool
 | .rows ro _=>!ro
 | .arr ro _ _=>!ro
 | .map ro _=>!ro
 | .held=>false
 | _=>true
def fJ:bL->Option (List (List D))
 | .rows _ rs=>some rs
 | .arr _ _ rows=>some (bK rows)
 | _=>none
structure AGZ (w:World) (own:Nat->Prop) (ρ:Nat->Option Loc) (l:Loc) (rs:List (List D)) (c:Array Value):Prop where
 size:c.size=l.C*l.sz
 pos:0<l.sz
 small:rs.length<=2 ^ 47
 len:rs.length<=l.C
 uX:rs.length=l.L
 width:∀ r∈rs,r.length=l.sz
 cell:∀ i j (hi:i<rs.length) (hj:j<rs[i].length),∃ v,c[i*l.sz+j]? = some v/\Rd w own ρ rs[i][j] v
 one:∀ (p:Nat) (v:Value),c[p]? = some v->v.oneCell'=true
inductive gC (w:World) (own:Nat->Prop) (ρ:Nat->Option Loc) (l:Loc):Obj->bL->Prop
 | rows (x:bL) (rs:List (List D)) (c:Array Value):fJ x=some rs->(∀ ro z rows,x = .arr ro z rows->l.sz=z)->AGZ w own ρ l rs c->gC w own ρ l (.cells c l.e (0,0)) x
 | map (ro:Bool) (es:List (Value×D)) (ents:Array MapEntry):ents.size=es.length->(∀ i (h:i<es.length),∃ e,ents[i]? = some e/\e.key=es[i].1/\e.born=i/\Rd w own ρ es[i].2 e.val) ->
   gC w own ρ l (.map ents es.length) (.map ro es)
 | mL (s:iII) (pos:Nat):gC w own ρ l (.stringIter s pos) (.mL s pos)
 | cF (es:List (Value×T)) (bV:Nat) (since:Nat) (seen:List Nat) (last:Nat):cS w own (.mp es) (.map (some bV))->gC w own ρ l (.mapIter (some bV) since seen.toArray last) (.cF es since seen last)
 | held (o:Obj):gC w own ρ l o .held
def gC.mono {w:World} {own:Nat->Prop} (hc:∀ b,¬ own b->b<w.heap.size->w'.heap[b]? = w.heap[b]?)
  (hz:w.heap.size<=w'.heap.size) (ho:∀ b,b<w.heap.size->¬ own b->¬ own' b) (hρ:∀ k l,ρ k=some l->ρ' k=some l) {l:Loc} {o:Obj} {x:bL} (h:gC w own ρ l o x):gC w' own' ρ' l o x:=by
 cases h with
 | rows _ rs c hr hz0 h=>exact .rows x rs c hr hz0 ⟨h.size,h.pos,h.small,h.len,h.uX,h.width,λi j hi hj=>let ⟨v,h1,h2⟩:=h.cell i j hi hj;⟨v,h1,h2.mono hc hz ho hρ⟩,h.one⟩
 | map ro es ents h1 h2=>exact .map ro es ents h1 (λi hi=>let ⟨e,a,b,b',c⟩:=h2 i hi;⟨e,a,b,b',c.mono hc hz ho hρ⟩)
 | mL s pos=>exact .mL s pos
 | cF es bV since seen last h=>exact .cF es bV since seen last (h.mono hc hz ho)
 | held o=>exact .held o
def kK (w:World) (own:Nat->Prop) (ρ:Nat->Option Loc) (l:Loc) (x:bL):Prop :=
 (0<l.L+l.C->∃ o,w.heap[l.bV]? = some o/\gC w own ρ l o x)/\(l.L+l.C=0->∃ ro z,x = .arr ro z [])
def kK.mono {w:World} {own:Nat->Prop} (hc:∀ b,¬ own b->b<w.heap.size->w'.heap[b]? = w.heap[b]?)
  (hz:w.heap.size<=w'.heap.size) (ho:∀ b,b<w.heap.size->¬ own b->¬ own' b) (hρ:∀ k l,ρ k=some l->ρ' k=some l) {l:Loc} (hat:0<l.L+l.C->w'.heap[l.bV]? = w.heap[l.bV]?) {x:bL} (h:kK w own ρ l x):kK w' own' ρ' l x :=
 ⟨λhL=>let ⟨o,h1,h2⟩:=h.1 hL;⟨o,(hat hL).trans h1,h2.mono hc hz ho hρ⟩,h.2⟩
structure Cx where
 P:Program
 own:Nat->Prop
 w0:World
 ρb:Nat->Option Loc
 σb:Nat->Option bL
 wb:World
 arg:List Nat
def bY (cx:Cx) (ρ:Nat->Option Loc) (σ:Nat->Option bL) (b:Nat):Prop:=cx.own b\/∃ k l x,σ k=some x/\ρ k=some l/\0<l.L+l.C/\l.bV=b
structure zV (a:List Nat) (B:Nat) (w w':World):Prop where
 os:w'.os=w.os
 tape:w'.tape=w.tape
 output:w'.output=w.output
 size:w.heap.size<=w'.heap.size
 block:∀ k,k<B->¬ k∈a->w'.heap[k]? = w.heap[k]?
variable {B:Nat}
def ACR {a:List Nat} {w:World} (h:Below B w w'):zV a B w w':=⟨h.os,h.tape,h.output,h.size,λk hk _=>h.block k hk⟩
def zV.toB {w:World} (h:zV [] B w w'):Below B w w':=⟨h.os,h.tape,h.output,h.size,λk hk=>h.block k hk (λe=>by cases e)⟩
def zV.trans {a:List Nat} {u v w:World} (h:zV a B u v) (k:zV a B v w):zV a B u w :=
 ⟨k.os.trans h.os,k.tape.trans h.tape,k.output.trans h.output,Nat.le_trans h.size k.size,λi hi ha=>(k.block i hi ha).trans (h.block i hi ha)⟩
structure Inv (cx:Cx) (ρ:Nat->Option Loc) (σ:Nat->Option bL) (n:Nat) (w:World):Prop where
 boxes:∀ k x,σ k=some x->∃ l,ρ k=some l/\kK w (bY cx ρ σ) ρ l x
 inj:∀ k k' x x' l l',σ k=some x->σ k'=some x'->ρ k=some l->ρ k'=some l'->0<l.L+l.C->0<l'.L+l'.C->l.bV=l'.bV->k=k'
 new:∀ k l,ρ k=some l->k<n/\(0<l.L+l.C->l.bV<w.heap.size/\¬ cx.own l.bV)
 uQ:∀ k x l,σ k=some x->ρ k=some l->0<l.L+l.C->iN x=true->cx.w0.heap.size<=l.bV\/l.bV∈cx.arg
 below:zV cx.arg cx.w0.heap.size cx.w0 w
 nC:∀ b,cx.own b->b<cx.w0.heap.size
 low:cx.P.low<=cx.w0.heap.size/\∀ a,a∈cx.arg->cx.P.low<=a
variable {cx:Cx}{σ:Nat->Option bL}
def Inv.ALK {n:Nat} {w:World} (h:Inv cx ρ σ n w) (ha:cx.arg=[]) (k:Nat) (x:bL) (l:Loc) (h1:σ k=some x) (h2:ρ k=some l) (h3:0<l.L+l.C) (h4:iN x=true):cx.w0.heap.size<=l.bV :=
 (h.uQ k x l h1 h2 h3 h4).elim id λe=>by rw[ha] at e;cases e
def Inv.loc {n:Nat} {w:World} (h:Inv cx ρ σ n w) {k:Nat} {x:bL} (hk:σ k=some x) (hx:∀ ro z,x≠.arr ro z []) :
  ∃ l,ρ k=some l/\0<l.L+l.C/\∃ o,w.heap[l.bV]? = some o/\gC w (bY cx ρ σ) ρ l o x:=by
 obtain ⟨l,hl,hb⟩:=h.boxes k x hk;have hL:0<l.L+l.C:=by
  rcases Nat.eq_zero_or_pos (l.L+l.C) with h0|h0
  ·obtain ⟨ro,z,e⟩:=hb.2 h0;exact absurd e (hx ro z)
  ·exact h0
 exact ⟨l,hl,hL,hb.1 hL⟩
structure St where
 s:Nat->D
 σ:Nat->Option bL
 n:Nat
def cJ (f:Nat->α) (i:Nat) (x:α):Nat->α:=λj=>if j=i then x else f j
@[simp] def jN (f:Nat->α) (i:Nat) (x:α):cJ f i x i=x:=by simp[cJ]
def bU (f:Nat->α) {i j:Nat} (x:α) (h:j≠i):cJ f i x j=f j:=by simp[cJ,h]
def KH (f:Nat->α) {i j:Nat} (x y:α) (h:i≠j):cJ (cJ f i x) j y=cJ (cJ f j y) i x:=by
 funext k;simp only[cJ];by_cases h1:k=i<;>by_cases h2:k=j<;>simp_all
def cS.grow {w:World} {own:Nat->Prop} (hb:Below w.heap.size w w') {d:T} {v:Value} (h:cS w own d v):cS w' own d v :=
 h.mono (λb _ hlt=>hb.block b hlt) hb.size (λ_ _ h=>h)
def Rd.grow {w:World} {own:Nat->Prop} (hb:Below w.heap.size w w') {d:D} {v:Value} (h:Rd w own ρ d v):Rd w' own ρ d v :=
 h.mono (λb _ hlt=>hb.block b hlt) hb.size (λ_ _ h=>h) (λ_ _ h=>h)
def kK.grow {w:World} {own:Nat->Prop} (hb:Below w.heap.size w w') {l:Loc} (hl:0<l.L+l.C->l.bV<w.heap.size) {x:bL} (h:kK w own ρ l x):kK w' own ρ l x :=
 h.mono (λb _ hlt=>hb.block b hlt) hb.size (λ_ _ h=>h) (λ_ _ h=>h) (λhL=>hb.block _ (hl hL))
variable {n':Nat}
def Inv.grow {n:Nat} {w:World} (h:Inv cx ρ σ n w) (hb:Below w.heap.size w w') (hn:n<=n'):Inv cx ρ σ n' w':=by
 refine ⟨λk x hk=>?_,h.inj,λk l hk=>?_,h.uQ,?_,h.nC,h.low⟩
 ·obtain ⟨l,hl,hx⟩:=h.boxes k x hk;exact ⟨l,hl,hx.grow hb λhL=>((h.new k l hl).2 hL).1⟩
 ·obtain ⟨h1,h2⟩:=h.new k l hk;have:=hb.size;exact ⟨by omega,λhL=>⟨by have:=(h2 hL).1;omega,(h2 hL).2⟩⟩
 ·exact h.below.trans (ACR (hb.mono (h.below.size)))
def bY.lt {n:Nat} {w:World} (h:Inv cx ρ σ n w) {b:Nat} (ho:bY cx ρ σ b):b<w.heap.size:=by
 rcases ho with h1|⟨k,l,x,_,h2,hL,rfl⟩
 ·have:=h.nC b h1;have:=h.below.size;omega
 ·exact ((h.new k l h2).2 hL).1
structure bZ (cx:Cx) (ρ ρ':Nat->Option Loc) (σ σ':Nat->Option bL) (w w':World):Prop where
 cell:∀ b,¬ bY cx ρ σ b->b<w.heap.size->w'.heap[b]? = w.heap[b]?
 size:w.heap.size<=w'.heap.size
 own:∀ b,b<w.heap.size->¬ bY cx ρ σ b->¬ bY cx ρ' σ' b
 loc:∀ k l,ρ k=some l->ρ' k=some l
 shape:∀ b y,w.shape? b=some y->w'.shape? b=some y
 ro:∀ k x,σ k=some x->iN x=false->∃ x',σ' k=some x'/\iN x'=false
def BY {w:World} (hb:Below w.heap.size w w'):∀ b y,w.shape? b=some y->w'.shape? b=some y:=by
 intro b y hy;have hlt:b<w.heap.size:=by
  rcases Nat.lt_or_ge b w.heap.size with h|h
  ·exact h
  ·simp[World.shape?,Array.getElem?_eq_none h] at hy
 simp only[World.shape?,hb.block b hlt] at hy ⊢;exact hy
def AAW {w:World} {k:Nat} (ho:∀ b,b≠k->w'.heap[b]? = w.heap[b]?) (hk:∀ y,w.shape? k=some y->w'.shape? k=some y):∀ b y,w.shape? b=some y->w'.shape? b=some y:=by
 intro b y hy;by_cases e:b=k
 ·subst e;exact hk y hy
 ·simp only[World.shape?,ho b e] at hy ⊢;exact hy
def bZ.refl (cx:Cx) (ρ:Nat->Option Loc) (σ:Nat->Option bL) (w:World):bZ cx ρ ρ σ σ w w:=⟨λ_ _ _=>rfl,al _,λ_ _ h=>h,λ_ _ h=>h,λ_ _ h=>h,λ_ x h hx=>⟨x,h,hx⟩⟩
def bZ.pV {w:World} (hb:Below w.heap.size w w'):bZ cx ρ ρ σ σ w w' :=
 ⟨λb _ hlt=>hb.block b hlt,hb.size,λ_ _ h=>h,λ_ _ h=>h,BY hb,λ_ x h hx=>⟨x,h,hx⟩⟩
variable {σ':Nat->Option bL}
def bZ.rd {w:World} (h:bZ cx ρ ρ' σ σ' w w') {d:D} {v:Value} (hd:Rd w (bY cx ρ σ) ρ d v):Rd w' (bY cx ρ' σ') ρ' d v :=
 hd.mono h.cell h.size h.own h.loc
variable {ρ'':Nat->Option Loc}{σ'':Nat->Option bL}{w'':World}
def bZ.trans {w:World} (h:bZ cx ρ ρ' σ σ' w w') (h':bZ cx ρ' ρ'' σ' σ'' w' w'')
  (hlt:∀ b o u,w.cell? ⟨b,o,none⟩=some u->b<w.heap.size):bZ cx ρ ρ'' σ σ'' w w'' :=
 ⟨λb hb hlt=>(h'.cell b (h.own b hlt hb) (by have:=h.size;omega)).trans (h.cell b hb hlt),Nat.le_trans h.size h'.size,λb hb hn=>h'.own b (by have:=h.size;omega) (h.own b hb hn),λk l hk=>h'.loc k l (h.loc k l hk),λb y hy=>h'.shape b y (h.shape b y hy),λk x hk hx=>let ⟨x',a,b⟩:=h.ro k x hk hx;h'.ro k x' a b⟩
def bZ.trans' {w:World} (h:bZ cx ρ ρ' σ σ' w w') (h':bZ cx ρ' ρ'' σ' σ'' w' w''):bZ cx ρ ρ'' σ σ'' w w'' :=
 h.trans h' (λb o _ hc=>World.block_lt_of_cell? w ⟨b,o,none⟩ hc)
def Good (P:Program) (w:World):Prop:=w.ShapedOpen P/\P.low<=w.heap.size
variable {P:Program}
def Good.keep {w:World} (h:Good P w) (hs:∀ b y,w.shape? b=some y->w'.shape? b=some y) (hb:∀ b,b<P.low->w'.heap[b]? = w.heap[b]?) (hz:w.heap.size<=w'.heap.size):Good P w':=by
 obtain ⟨hsh,hlow⟩:=h;refine ⟨⟨λg zero t hg hz=>?_,λk hk1 hk2=>?_⟩,by omega⟩
 ·obtain ⟨cs,h1,h2,h3⟩:=hsh.1 g zero t hg hz;have hl:g<P.low:=by
   rcases Nat.lt_or_ge g (begin P (λ_ _=>0) default).world.heap.size with h'|h'
   ·exact h'
   ·simp_all
  exact ⟨cs,(hb g hl).trans h1,h2,λhbd=>Row.ok_of_shape (λb x=>hs b x) (h3 hbd)⟩
 ·obtain ⟨o,o₀,h1,h2,h3⟩:=hsh.2 k hk1 hk2;exact ⟨o,o₀,(hb k hk2).trans h1,h2,h3⟩
def Good.below {w:World} (h:Good P w) (hb:Below w.heap.size w w'):Good P w' :=
 h.keep (BY hb) (λb hl=>hb.block b (by have:=h.2;omega)) hb.size
def Inv.yB {n:Nat} {w:World} (h:Inv cx ρ σ n w) (h':Inv cx ρ' σ' n' w') (hk:bZ cx ρ ρ' σ σ' w w') (hg:Good cx.P w):Good cx.P w' :=
 hg.keep hk.shape (λb hl=>(h'.below.block b (by have:=h.low.1;omega) (λe=>by have:=h.low.2 _ e;omega)).trans (h.below.block b (by have:=h.low.1;omega) (λe=>by have:=h.low.2 _ e;omega)).symm) hk.size
structure Rel (cx:Cx) (nt:Nat) (ρ:Nat->Option Loc) (st:St) (a:Act) (w:World):Prop where
 inv:Inv cx ρ st.σ st.n w
 nt:a.tmps.size=nt
 defers:a.defers=[]
 keeps:bZ cx cx.ρb ρ cx.σb st.σ cx.wb w
 yB:Good cx.P w
 uD:∀ i,Rd w (bY cx ρ st.σ) ρ (st.s i) (a.tmps.getD i undef)
def Inv.AVI {n k:Nat} {w:World} (h:Inv cx ρ σ n w) (hn':n<=n') (hk:k<n') (hne:∀ i l',ρ i=some l'->i≠k) (l:Loc) (x:bL) (hb:Below w.heap.size w w')
  (hl:0<l.L+l.C->w.heap.size<=l.bV/\l.bV<w'.heap.size) (hx:kK w' (λb=>bY cx ρ σ b\/(0<l.L+l.C/\b=l.bV)) (cJ ρ k (some l)) l x) :
  Inv cx (cJ ρ k (some l)) (cJ σ k (some x)) n' w'/\bZ cx ρ (cJ ρ k (some l)) σ (cJ σ k (some x)) w w':=by
 have hρ:∀ i l',ρ i=some l'->cJ ρ k (some l) i=some l':=λi l' hi=>by rw[bU _ _ (hne i l' hi)];exact hi
 have hσ:∀ i y,σ i=some y->i≠k:=λi y hi=>by obtain ⟨l',h1,_⟩:=h.boxes i y hi;exact hne i l' h1
 have hown':∀ b,bY cx (cJ ρ k (some l)) (cJ σ k (some x)) b->bY cx ρ σ b\/(0<l.L+l.C/\b=l.bV):=by
  intro b hc;rcases hc with hc|⟨i,l',y,h1,h2,h3,h4⟩
  ·exact .inl (.inl hc)
  ·by_cases e:i=k
   ·subst e;simp at h2;subst h2;exact .inr ⟨h3,h4.symm⟩
   ·rw[bU _ _ e] at h1 h2;exact .inl (.inr ⟨i,l',y,h1,h2,h3,h4⟩)
 have hown:∀ b,b<w.heap.size->¬ bY cx ρ σ b->¬ bY cx (cJ ρ k (some l)) (cJ σ k (some x)) b:=by
  intro b hb hn hc;rcases hown' b hc with hc|⟨hL,rfl⟩
  ·exact hn hc
  ·have:=(hl hL).1;omega
 have hc:∀ b,¬ bY cx ρ σ b->b<w.heap.size->w'.heap[b]? = w.heap[b]? := λb _ hlt=>hb.block b hlt;refine ⟨⟨λi y hi=>?_,λi i' y y' m m' h1 h2 h3 h4 hL hL' he=>?_,λi m hm=>?_,λi y m hi hm hL hw=>?_,h.below.trans (ACR (hb.mono h.below.size)),h.nC,h.low⟩,⟨hc,hb.size,hown,hρ,BY hb,λi y hi hy=>⟨y,by rw[bU _ _ (hσ i y hi)];exact hi,hy⟩⟩⟩
 ·by_cases e:i=k
  ·subst e;simp at hi;subst hi;exact ⟨l,by simp,hx.mono (λ_ _ _=>rfl) (al _) (λb _ hn hc=>hn (hown' b hc)) (λ_ _ h=>h) (λ_=>rfl)⟩
  ·rw[bU _ _ e] at hi;obtain ⟨m,hm,h1⟩:=h.boxes i y hi;exact ⟨m,hρ _ _ hm,h1.mono hc hb.size hown hρ λhL=>hb.block _ ((h.new i m hm).2 hL).1⟩
 ·by_cases e:i=k
  ·by_cases e':i'=k
   ·omega
   ·subst e;rw[bU _ _ e'] at h4;simp at h3;subst h3;have:=((h.new i' m' h4).2 hL').1;have:=(hl hL).1;omega
  ·rw[bU _ _ e] at h1 h3;by_cases e':i'=k
   ·subst e';simp at h4;subst h4;have:=((h.new i m h3).2 hL).1;have:=(hl hL').1;omega
   ·rw[bU _ _ e'] at h2 h4;exact h.inj i i' y y' m m' h1 h2 h3 h4 hL hL' he
 ·by_cases e:i=k
  ·subst e;simp at hm;subst hm;have:=h.below.size;exact ⟨by omega,λhL=>⟨(hl hL).2,λho=>by have:=h.nC _ ho;have:=(hl hL).1;omega⟩⟩
  ·rw[bU _ _ e] at hm;have h1:=h.new i m hm;have:=hb.size;exact ⟨by omega,λhL=>⟨by have:=(h1.2 hL).1;omega,(h1.2 hL).2⟩⟩
 ·by_cases e:i=k
  ·subst e;simp at hm;subst hm;have:=h.below.size;have:=(hl hL).1;exact .inl (by omega)
  ·rw[bU _ _ e] at hi hm;exact h.uQ i y m hi hm hL hw
def Inv.oT {n k:Nat} {w:World} (h:Inv cx ρ σ n w) (hk:n<=k) (l:Loc) (x:bL) (hb:Below w.heap.size w w')
  (hl:0<l.L+l.C->w.heap.size<=l.bV/\l.bV<w'.heap.size) (hx:kK w' (λb=>bY cx ρ σ b\/(0<l.L+l.C/\b=l.bV)) (cJ ρ k (some l)) l x) :
  Inv cx (cJ ρ k (some l)) (cJ σ k (some x)) (k+1) w'/\bZ cx ρ (cJ ρ k (some l)) σ (cJ σ k (some x)) w w' :=
 h.AVI (by omega) (Nat.lt_succ_self k) (λi l' hi e=>by have:=(h.new i l' hi).1;omega) l x hb hl hx
def Inv.AF0 {n k:Nat} {w:World} (h:Inv cx ρ σ n w) (hn:n<=n') {x₀:bL} {l:Loc} (hk:σ k=some x₀) (hl:ρ k=some l) (hL:0<l.L+l.C) (hw:iN x₀=true) (o:Obj) (x:bL)
  (hos:w'.os=w.os) (htp:w'.tape=w.tape) (hout:w'.output=w.output) (hsz:w'.heap.size=w.heap.size) (hat:w'.heap[l.bV]? = some o) (hother:∀ b,b≠l.bV->w'.heap[b]? = w.heap[b]?) (hsh:∀ y,w.shape? l.bV=some y->w'.shape? l.bV=some y)
  (hx:gC w (bY cx ρ σ) ρ l o x) :
  Inv cx ρ (cJ σ k (some x)) n' w'/\bZ cx ρ ρ σ (cJ σ k (some x)) w w':=by
 have hown:∀ b,¬ bY cx ρ σ b->¬ bY cx ρ (cJ σ k (some x)) b:=by
  intro b hn hc;rcases hc with hc|⟨i,l',y,h1,h2,h3,h4⟩
  ·exact hn (.inl hc)
  ·by_cases e:i=k
   ·subst e;exact hn (.inr ⟨i,l',x₀,hk,h2,h3,h4⟩)
   ·rw[bU _ _ e] at h1;exact hn (.inr ⟨i,l',y,h1,h2,h3,h4⟩)
 have hmine:bY cx ρ σ l.bV:=.inr ⟨k,l,x₀,hk,hl,hL,rfl⟩;have hc:∀ b,¬ bY cx ρ σ b->b<w.heap.size->w'.heap[b]? = w.heap[b]? := λb hn _=>hother b λe=>hn (e ▸ hmine);have hz:w.heap.size<=w'.heap.size:=by omega
 refine ⟨⟨λi y hi=>?_,λi i' y y' m m' h1 h2 h3 h4 hL hL' he=>?_,λi m hm=>?_,λi y m hi hm hLm hwy=>?_,?_,h.nC,h.low⟩,⟨hc,hz,λb _=>hown b,λ_ _ h=>h,AAW hother hsh,λi y hi hy=>⟨y,by rw[bU _ _ (λe=>by subst e;rw[hk] at hi;cases hi;rw[hw] at hy;cases hy)];exact hi,hy⟩⟩⟩
 ·by_cases e:i=k
  ·subst e;simp at hi;subst hi;exact ⟨l,hl,λ_=>⟨o,hat,hx.mono hc hz (λb _=>hown b) (λ_ _ h=>h)⟩,λh0=>by omega⟩
  ·rw[bU _ _ e] at hi;obtain ⟨m,hm,h1⟩:=h.boxes i y hi;refine ⟨m,hm,h1.mono hc hz (λb _=>hown b) (λ_ _ h=>h) λhLm=>hother _ λeq=>e (h.inj i k y x₀ m l hi hk hm hl hLm hL eq)⟩
 ·have ex:∀ i y,cJ σ k (some x) i=some y->∃ z,σ i=some z:=λi y hi=>by
   by_cases e:i=k
   ·subst e;exact ⟨x₀,hk⟩
   ·rw[bU _ _ e] at hi;exact ⟨y,hi⟩
  obtain ⟨z,hz⟩:=ex _ _ h1;obtain ⟨z',hz'⟩:=ex _ _ h2;exact h.inj i i' z z' m m' hz hz' h3 h4 hL hL' he
 ·have h1:=h.new i m hm;exact ⟨by omega,λhL=>⟨by have:=(h1.2 hL).1;omega,(h1.2 hL).2⟩⟩
 ·by_cases e:i=k
  ·subst e;rw[hl] at hm;cases hm;exact h.uQ i x₀ l hk hl hL hw
  ·rw[bU _ _ e] at hi;exact h.uQ i y m hi hm hLm hwy
 ·refine h.below.trans ⟨hos,htp,hout,by omega,λb hb ha=>hother b ?_⟩;rcases h.uQ k x₀ l hk hl hL hw with h1|h1
  ·omega
  ·intro e;subst e;exact ha h1
variable {nt:Nat}{st:St}
def Rel.put {a:Act} {w:World} (h:Rel cx nt ρ st a w) (hi:Inv cx ρ' σ' n' w') (hk:bZ cx ρ ρ' st.σ σ' w w')
  {t:Tmp} {d:D} {v:Value} (ht:t<nt) (hd:Rd w' (bY cx ρ' σ') ρ' d v):Rel cx nt ρ' ⟨cJ st.s t d,σ',n'⟩ (a.put (some t) v) w':=by
 refine ⟨hi,by simp[Act.put,h.nt],by simp[Act.put,h.defers],h.keeps.trans' hk,h.inv.yB hi hk h.yB,λi=>?_⟩;simp only[Act.put,Array.getD_eq_getD_getElem?,Array.getElem?_setIfInBounds];by_cases e:i=t
 ·subst e;simp only[jN];simp only[if_true];rw[if_pos (by rw[h.nt];exact ht)];exact hd
 ·rw[bU _ _ e,if_neg (λe'=>e e'.symm)];have:=h.uD i;rw[Array.getD_eq_getD_getElem?] at this;exact hk.rd this
def Rel.skip {a:Act} {w:World} (h:Rel cx nt ρ st a w) (hi:Inv cx ρ' σ' n' w') (hk:bZ cx ρ ρ' st.σ σ' w w') (v:Value) :
  Rel cx nt ρ' ⟨st.s,σ',n'⟩ (a.put none v) w' :=
 ⟨hi,h.nt,h.defers,h.keeps.trans' hk,h.inv.yB hi hk h.yB,λi=>hk.rd (h.uD i)⟩
end Go.Pv
