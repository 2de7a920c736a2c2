/-
  VersionChanges, plain: maps of first elements, what differs; the least behind the last.
  VersionChanges: maps of records keyed by strings, and ranges over them.
  Facts on the program that every function's file asks for.
  The seam, the part, the section with an identifier.
  The part with an identifier, as the program finds it; how thick a seam is.
  Words that several files share.
  The way from the block down to a part.
  Packages; equality of lists, shapes, parts and packages.
  StructureFinds: Part, Node, Seam and Package answer as the reference does.
  StructureSames: Same answers as the reference does.
  version.Changed: what it asks of elements.
  slices.Sort, Compact, DeleteFunc, Grow at strings.
  edit.Touches.
  Ascending lists of strings, each once (plain).
  VersionChanges, plain: what two designs differ in, ascending.
  version.Changed.
  shipyardref21.ids, differs, Changed.
  The examples of chapter 21, run by the kernel.
  VersionChanges: what the law comes to.
-/
import Derived.Test.YtokajdeigdelgaaGreatDoorPv6kn
import Derived.Test.YtokajdeigdelgaaGreatDoorPv6ki
import Derived.Test.YtokajdeigdelgaaGreatDoorPv6ty
import Derived.Test.YtokajdeigdelgaaGreatDoorProg
import Derived.KernelRfl
import Derived.Test.YtokajdeigdelgaaGreatDoorPv6kj
import Derived.Test.YtokajdeigdelgaaGreatDoorPv6kq
import Derived.Test.YtokajdeigdelgaaGreatDoorPv6kr
import Derived.Test.YtokajdeigdelgaaGreatDoorPv6lv
import Derived.Sort.Walk0
import Derived.WalkKit
import Derived.BigCall
import Derived.Test.YtokajdeigdelgaaGreatDoorPv6cb
import Derived.Test.YtokajdeigdelgaaGreatDoorPv6gs
set_option linter.defProp false
set_option linter.unusedSimpArgs false
set_option linter.unusedVariables false
namespace Go.Pv
open Go Go.RowKit
section
variable {α : Type}
theorem xA {k:ByteArray}:∀ {es:List (ByteArray×α)},eO es k=none→k∉es.map fun e=>e.1
 | [],_=>by simp
 | e::es,h=>by
  unfold eO at h
  split at h
  ·cases h
  ·rename_i hne
   have:=xA h
   simp only[List.map_cons,List.mem_cons,not_or]
   exact ⟨fun h'=>hne h'.symm,this⟩
theorem xB {k s:ByteArray} {x:α}:∀ {es:List (ByteArray×α)},eO (es++[(k,x)]) s=match eO es s with|some y=>some y|none=>if k=s then some x else none
 | []=>by simp[eO]
 | e::es=>by
  simp only[List.cons_append,eO]
  split
  ·rfl
  ·exact xB
theorem lF {s:ByteArray} {x:α}:∀ {es:List (ByteArray×α)},(es.map fun e=>e.1).Nodup→(eO es s=some x↔(s,x)∈es)
 | [],_=>by simp[eO]
 | e::es,h=>by
  simp only[List.map_cons,List.nodup_cons] at h
  unfold eO
  split
  ·rename_i he
   constructor
   ·intro h';cases h';subst he;simp
   ·intro h'
    rcases List.mem_cons.1 h' with h'|h'
    ·subst h';rfl
    ·exact absurd (List.mem_map.2 ⟨_,h',he.symm⟩) h.1
  ·rename_i he
   rw[lF h.2,List.mem_cons]
   constructor
   ·exact .inr
   ·rintro (h'|h')
    ·subst h';exact absurd rfl he
    ·exact h'
def fG (id:α→ByteArray) (l:List α) (k:Nat) (es:List (ByteArray×α)):Prop :=
 (∀ s,eO es s=(l.take k).find? fun x=>decide (id x=s))∧(es.map fun e=>e.1).Nodup∧es.length≤k
theorem fG.zero (id:α→ByteArray) (l:List α):fG id l 0 []:=⟨by simp[eO],by simp,by simp⟩
theorem fG.no {id:α→ByteArray} {l:List α} {k:Nat} {es:List (ByteArray×α)} (h:fG id l k es) (hk:k<l.length) {y:α} (hy:eO es (id l[k])=some y):fG id l (k+1) es:=by
 refine ⟨fun s=>?_,h.2.1,by have:=h.2.2;omega⟩
 rw[List.take_succ_eq_append_getElem hk,List.find?_append,←h.1]
 cases hs:eO es s with
 | some z=>rfl
 | none =>
  rw[Option.none_or,List.find?_cons]
  split
  ·rename_i he
   rw[of_decide_eq_true he,hs] at hy;cases hy
  ·rfl
theorem fG.yes {id:α→ByteArray} {l:List α} {k:Nat} {es:List (ByteArray×α)} (h:fG id l k es) (hk:k<l.length) (hy:eO es (id l[k])=none):fG id l (k+1) (es++[(id l[k],l[k])]):=by
 refine ⟨fun s=>?_,?_,by have:=h.2.2;simp;omega⟩
 ·rw[List.take_succ_eq_append_getElem hk,List.find?_append,←h.1,xB]
  cases hs:eO es s with
  | some z=>rfl
  | none =>
   rw[Option.none_or,List.find?_cons]
   by_cases he:id l[k]=s
   ·simp[he]
   ·simp[he]
 ·rw[List.map_append,List.nodup_append]
  refine ⟨h.2.1,by simp,fun a ha b hb e=>?_⟩
  simp only[List.map_cons,List.map_nil,List.mem_singleton] at hb
  subst hb e
  exact xA hy ha
def FT (same:α→α→Bool):Option α→Option α→Bool
 | some x,some y=>!same x y
 | none,none=>false
 | _,_=>true
def D3 (same:α→α→Bool) (q:List (ByteArray×α)) (e:ByteArray×α):Bool:=match eO q e.1 with|some y=>!same e.2 y|none=>true
def HB (p:List (ByteArray×α)) (e:ByteArray×α):Bool:=(eO p e.1).isNone
theorem NN {same:α→α→Bool} {id:α→ByteArray} {a b:List α} {p q:List (ByteArray×α)} (hp:fG id a a.length p) (hq:fG id b b.length q) {o1 o2:List ByteArray}
  (h1:∀ s,s∈o1↔∃ e∈p,e.1=s∧D3 same q e=true) (h2:∀ s,s∈o2↔∃ e∈q,e.1=s∧HB p e=true) (s:ByteArray) :
  s∈o1++o2↔FT same (a.find? fun x=>decide (id x=s)) (b.find? fun x=>decide (id x=s))=true:=by
 have ea:(a.find? fun x=>decide (id x=s))=eO p s:=by have:=hp.1 s;rw[List.take_length] at this;exact this.symm
 have eb:(b.find? fun x=>decide (id x=s))=eO q s:=by have:=hq.1 s;rw[List.take_length] at this;exact this.symm
 rw[ea,eb,List.mem_append,h1,h2]
 constructor
 ·rintro (⟨e,he,rfl,hd⟩|⟨e,he,rfl,hd⟩)
  ·have hg:=(lF (x:=e.2) hp.2.1).2 he
   rw[hg]
   unfold D3 at hd
   split at hd
   ·rename_i y hy;rw[hy];exact hd
   ·rename_i hy;rw[hy];rfl
  ·have hg:=(lF (x:=e.2) hq.2.1).2 he
   unfold HB at hd
   rw[Option.isNone_iff_eq_none] at hd
   rw[hg,hd];rfl
 ·intro hd
  cases hpx:eO p s with
  | some x =>
   refine .inl ⟨(s,x),(lF hp.2.1).1 hpx,rfl,?_⟩
   unfold D3
   rw[hpx] at hd
   cases hqy:eO q s with
   | some y=>rw[hqy] at hd;exact hd
   | none=>simp
  | none =>
   cases hqy:eO q s with
   | some y =>
    refine .inr ⟨(s,y),(lF hq.2.1).1 hqy,rfl,?_⟩
    unfold HB;simp[hpx]
   | none=>rw[hpx,hqy] at hd;cases hd
theorem pB {same:α→α→Bool} (hs:∀ x y,same x y=same y x) (x y:Option α):FT same x y=FT same y x:=by
 cases x<;>cases y<;>simp[FT,hs]
theorem KU {same:α→α→Bool} (hs:∀ x,same x x=true) (x:Option α):FT same x x=false:=by
 cases x<;>simp[FT,hs]
end
section
variable {β : Type} {lt : β → β → Prop}
structure GY (lt:β→β→Prop):Prop where
 S5:∀ a,¬ lt a a
 tr:∀ {a b c},lt a b→lt b c→lt a c
 UQ:∀ {a b},¬ lt a b→¬ lt b a→a=b
def iW (lt:β→β→Prop) (begun:Bool) (last s:β):Prop:=begun=false∨lt last s
def eK (lt:β→β→Prop) (all:List β) (begun:Bool) (last:β) (k:Nat) (nx:β) (sm:Bool):Prop :=
 (sm=false→∀ s∈all.take k,¬ iW lt begun last s)∧(sm=true→nx∈all∧iW lt begun last nx∧∀ s∈all.take k,iW lt begun last s→¬ lt s nx)
theorem eK.zero (all:List β) (begun:Bool) (last nx:β):eK lt all begun last 0 nx false:=⟨by simp,by simp⟩
theorem eK.take (ho:GY lt) {all:List β} {begun:Bool} {last:β} {k:Nat} {nx:β} {sm:Bool} (h:eK lt all begun last k nx sm) (hk:k<all.length)
  (he:iW lt begun last all[k]) (hc:sm=false∨lt all[k] nx):eK lt all begun last (k+1) all[k] true:=by
 refine ⟨by simp,fun _=>⟨List.getElem_mem hk,he,fun s hs hes=>?_⟩⟩
 rw[List.take_succ_eq_append_getElem hk,List.mem_append] at hs
 rcases hs with hs|hs
 ·cases sm with
  | false=>exact absurd hes (h.1 rfl s hs)
  | true =>
   have hlt:=hc.resolve_left (by simp)
   exact fun h'=>(h.2 rfl).2.2 s hs hes (ho.tr h' hlt)
 ·rw[List.mem_singleton.1 hs];exact ho.S5 _
theorem eK.skip {all:List β} {begun:Bool} {last:β} {k:Nat} {nx:β} {sm:Bool} (h:eK lt all begun last k nx sm) (hk:k<all.length)
  (hc:¬ iW lt begun last all[k]∨(sm=true∧¬ lt all[k] nx)):eK lt all begun last (k+1) nx sm:=by
 refine ⟨fun e s hs=>?_,fun e=>⟨(h.2 e).1,(h.2 e).2.1,fun s hs hes=>?_⟩⟩
 ·rw[List.take_succ_eq_append_getElem hk,List.mem_append] at hs
  rcases hs with hs|hs
  ·exact h.1 e s hs
  ·rw[List.mem_singleton.1 hs]
   rcases hc with hc|⟨hc,_⟩
   ·exact hc
   ·rw[hc] at e;cases e
 ·rw[List.take_succ_eq_append_getElem hk,List.mem_append] at hs
  rcases hs with hs|hs
  ·exact (h.2 e).2.2 s hs hes
  ·rw[List.mem_singleton.1 hs] at hes ⊢
   rcases hc with hc|⟨_,hc⟩
   ·exact absurd hes hc
   ·exact hc
def fZ (lt:β→β→Prop) (all:List β) (D:β→Prop) (out:List β) (begun:Bool) (last:β):Prop :=
 out.Pairwise lt∧∀ s,s∈out↔s∈all∧D s∧¬ iW lt begun last s
theorem fZ.zero (all:List β) (D:β→Prop) (last:β):fZ lt all D [] false last:=⟨List.Pairwise.nil,fun s=>by simp[iW]⟩
theorem mG (ho:GY lt) {all:List β} {begun:Bool} {last nx:β} (h:eK lt all begun last all.length nx true) {s:β} (hs:s∈all):¬ iW lt true nx s↔¬ iW lt begun last s∨s=nx:=by
 have h2:=(h.2 rfl).2
 rw[List.take_length] at h2
 have e1:iW lt true nx s↔lt nx s:=by simp[iW]
 rw[e1]
 constructor
 ·intro hn
  by_cases he:iW lt begun last s
  ·exact .inr (ho.UQ (h2.2 s hs he) hn)
  ·exact .inl he
 ·rintro (hn|rfl)
  ·intro hl
   refine hn ?_
   rcases h2.1 with h3|h3
   ·exact .inl h3
   ·exact .inr (ho.tr h3 hl)
  ·exact ho.S5 _
theorem fZ.skip (ho:GY lt) {all:List β} {D:β→Prop} {out:List β} {begun:Bool} {last nx:β} (h:fZ lt all D out begun last) (hl:eK lt all begun last all.length nx true) (hd:¬ D nx):fZ lt all D out true nx:=by
 refine ⟨h.1,fun s=>?_⟩
 rw[h.2]
 constructor
 ·rintro ⟨h1,h2,h3⟩;exact ⟨h1,h2,(mG ho hl h1).2 (.inl h3)⟩
 ·rintro ⟨h1,h2,h3⟩
  rcases (mG ho hl h1).1 h3 with h3|rfl
  ·exact ⟨h1,h2,h3⟩
  ·exact absurd h2 hd
theorem fZ.take (ho:GY lt) {all:List β} {D:β→Prop} {out:List β} {begun:Bool} {last nx:β} (h:fZ lt all D out begun last) (hl:eK lt all begun last all.length nx true) (hd:D nx):fZ lt all D (out++[nx]) true nx:=by
 have hn:=hl.2 rfl
 refine ⟨List.pairwise_append.2 ⟨h.1,by simp,fun a ha b hb=>?_⟩,fun s=>?_⟩
 ·rw[List.mem_singleton.1 hb]
  have ha':=(h.2 a).1 ha
  refine Classical.byContradiction fun hlt=>?_
  have:¬ lt nx a:=fun h'=>ha'.2.2 (by
   rcases hn.2.1 with h3|h3
   ·exact .inl h3
   ·exact .inr (ho.tr h3 h'))
  exact ha'.2.2 (by rw[ho.UQ hlt this];exact hn.2.1)
 ·rw[List.mem_append,h.2,List.mem_singleton]
  constructor
  ·rintro (⟨h1,h2,h3⟩|rfl)
   ·exact ⟨h1,h2,(mG ho hl h1).2 (.inl h3)⟩
   ·exact ⟨hn.1,hd,(mG ho hl hn.1).2 (.inr rfl)⟩
  ·rintro ⟨h1,h2,h3⟩
   rcases (mG ho hl h1).1 h3 with h3|rfl
   ·exact .inl ⟨h1,h2,h3⟩
   ·exact .inr rfl
theorem fZ.done {all:List β} {D:β→Prop} {out:List β} {begun:Bool} {last nx:β} (h:fZ lt all D out begun last) (hl:eK lt all begun last all.length nx false):out.Pairwise lt∧∀ s,s∈out↔s∈all∧D s:=by
 refine ⟨h.1,fun s=>?_⟩
 rw[h.2]
 have:=hl.1 rfl
 rw[List.take_length] at this
 exact ⟨fun ⟨a,b,_⟩=>⟨a,b⟩,fun ⟨a,b⟩=>⟨a,b,this s a⟩⟩
open Classical in
noncomputable def rV (lt:β→β→Prop) (all:List β) (begun:Bool) (last:β):Nat:=(all.filter fun s=>decide (iW lt begun last s)).length
theorem filter_lt {p q:β→Bool}:∀ {l:List β},(∀ s∈l,p s=true→q s=true)→(∃ s∈l,q s=true∧p s=false)→(l.filter p).length<(l.filter q).length
 | [],_,⟨s,hs,_⟩=>by cases hs
 | a::l,h,⟨s,hs,h1,h2⟩=>by
  have hle:∀ {m:List β},(∀ s∈m,p s=true→q s=true)→(m.filter p).length≤(m.filter q).length:=fun {m} hm=>by
   induction m with
   | nil=>simp
   | cons b m ih =>
    have:=ih fun s hs=>hm s (List.mem_cons_of_mem _ hs)
    have hb:=hm b List.mem_cons_self
    rw[List.filter_cons,List.filter_cons]
    split
    ·rename_i e;rw[if_pos (hb e)];simpa using this
    ·split
     ·simp;omega
     ·exact this
  rw[List.filter_cons,List.filter_cons]
  rcases List.mem_cons.1 hs with rfl|hs
  ·rw[h1,h2]
   have:=hle fun s hs=>h s (List.mem_cons_of_mem _ hs)
   simp;omega
  ·have ih:=filter_lt (fun s hs=>h s (List.mem_cons_of_mem _ hs)) ⟨s,hs,h1,h2⟩
   have hb:=h a List.mem_cons_self
   split
   ·rename_i e;rw[if_pos (hb e)];simpa using ih
   ·split
    ·simp;omega
    ·exact ih
open Classical in
theorem LN (ho:GY lt) {all:List β} {begun:Bool} {last nx:β} (hl:eK lt all begun last all.length nx true):rV lt all true nx<rV lt all begun last:=by
 have hn:=hl.2 rfl
 have e1:∀ s,iW lt true nx s↔lt nx s:=fun s=>by simp[iW]
 unfold rV
 refine filter_lt (fun s hs h=>?_) ⟨nx,hn.1,?_,?_⟩
 ·have h':=(e1 s).1 (of_decide_eq_true h)
  refine decide_eq_true ?_
  rcases hn.2.1 with h3|h3
  ·exact .inl h3
  ·exact .inr (ho.tr h3 h')
 ·exact decide_eq_true hn.2.1
 ·exact decide_eq_false fun h=>ho.S5 nx ((e1 nx).1 h)
end
end Go.Pv
namespace Go.Pv
open Go Go.RowKit
section
variable {ag : Bool} {r : Sy}
theorem oL {k:ByteArray}:∀ {es:List (ByteArray×r.den)} {i:Nat},(∀ e∈es,e.1≠k)→findD .string (.string k) (List.map (aH .str ag r) es) i=some none
 | [],_,_=>rfl
 | e::es,i,h=>by
  show (match Instr.sameNow .string (.string k) (.string e.1) with|some true=>_|some false=>_|none=>_)=_
  rw[vI,decide_eq_false (fun h'=>h e (by simp) h'.symm)]
  exact oL fun e' he'=>h e' (by simp[he'])
theorem BL {k:ByteArray}:∀ {es:List (ByteArray×r.den)} {i j:Nat} (hj:j<es.length),es[j].1=k→(∀ q (hq:q<j),es[q].1≠k)→findD .string (.string k) (List.map (aH .str ag r) es) i=some (some (i+j,.p (aJ ag r es[j].2)))
 | e::es,i,0,_,he,_=>by
  show (match Instr.sameNow .string (.string k) (.string e.1) with|some true=>_|some false=>_|none=>_)=_
  rw[vI,decide_eq_true (by simpa using he.symm)];rfl
 | e::es,i,j+1,hj,he,hp=>by
  have hj':j<es.length:=by simpa using hj
  have hne:e.1≠k:=hp 0 (by omega)
  show (match Instr.sameNow .string (.string k) (.string e.1) with|some true=>_|some false=>_|none=>_)=_
  rw[vI,decide_eq_false (fun h=>hne h.symm)]
  have:=BL (i:=i+1) hj' (by simpa using he) (fun q hq=>by have:=hp (q+1) (by omega);simpa using this)
  rw[show i+1+j=i+(j+1) by omega] at this
  exact this
theorem zF {es:List (ByteArray×r.den)} {k:ByteArray} {A:Prop} {B:Nat→r.den→Prop} (hA:eO es k=none→A) (hB:∀ i v,eO es k=some v→B i v):eC .string (.string k) (List.map (aH .str ag r) es) ag r A B:=by
 rcases oO k es with ⟨h1,h2⟩|⟨j,hj,h1,h2,h3⟩
 ·exact .inl ⟨oL h2,hA h1⟩
 ·exact .inr ⟨0+j,es[j].2,BL hj h1 h2,hB _ _ h3⟩
theorem NK (h:r.pure=true) (e:ByteArray×r.den):yW (aH .str true r e)=aH .str true r e:=by
 show (EL .str e.1,D.p (T.agg ((r.enc e.2).map (T.canon 0))))=_
 rw[jY e.2 h];rfl
theorem tQ (h:r.pure=true) (es:List (ByteArray×r.den)) (K:List (ByteArray×r.den)→Prop) (hk:K es):cM .str true r (List.map (aH .str true r) es) K :=
 ⟨es,by rw[List.map_map];exact List.map_congr_left fun e _=>NK h e,hk⟩
theorem TH (h:r.pure=true) {es:List (ByteArray×r.den)} {k:ByteArray} {v:r.den} (hg:eO es k=none) {K:List (ByteArray×r.den)→Prop} (hK:K (es++[(k,v)])) :
  oR (Option (Nat×D)) (findD .string (.string k) (List.map (aH .str true r) es) 0) fun y=>cM .str true r (e8 (List.map (aH .str true r) es) y (.string k) (D.p (.agg (r.enc v)))) K:=by
 rcases oO k es with ⟨h1,h2⟩|⟨j,hj,h1,h2,h3⟩
 ·refine ⟨_,oL h2,?_⟩
  dsimp only
  rw[show e8 (List.map (aH .str true r) es) none (.string k) (D.p (.agg (r.enc v)))=List.map (aH .str true r) (es++[(k,v)]) by simp only[e8,List.map_append,List.map_cons,List.map_nil];rfl]
  exact tQ h _ _ hK
 ·rw[hg] at h3;cases h3
theorem QQ {es:List (ByteArray×r.den)} {seen:List Nat} {i:Nat} (hi:i<es.length) (K:ByteArray→r.den→Prop) (hk:K es[i].1 es[i].2):r7 .str ag r (List.map (aH .str ag r) es) (seen++[i]) K :=
 ⟨i,es[i].1,es[i].2,by simp,by simp[hi],hk⟩
abbrev kW:=List ByteArray×(Nat×List Nat×Nat)×PUnit
theorem GO {es:List (ByteArray×r.den)} {E:List (Value×D)} (hE:E=List.map (aH .str ag r) es) {o:List ByteArray} (P:ByteArray×r.den→Bool)
  {EXIT:kW→Prop} {BODY:(kW→Prop)→kW→Nat→ByteArray→r.den→Prop}
  (hbody:∀ (X:kW→Prop) (out:List ByteArray) (seen:List Nat) (i:Nat) (hi:i<es.length),out.length≤o.length+seen.length→seen.length<es.length →
   (P es[i]=true→X (out++[es[i].1],(E.length,seen++[i],E.length),()))→(P es[i]=false→X (out,(E.length,seen++[i],E.length),()))→BODY X (out,(E.length,seen,E.length),()) i es[i].1 es[i].2)
  (hexit:∀ (o2:List ByteArray) (seen:List Nat),(∀ s,s∈o2↔∃ e∈es,e.1=s∧P e=true)→o2.length≤es.length→EXIT (o++o2,(E.length,seen,E.length),())) :
  bB kW (fun X s=>bT (decide (E.length≤s.2.1.1)&&decide (s.2.1.1≤s.2.1.2.2)) (kZ E.length s.2.1.2.1 (EXIT s) fun i=>bT (decide (E.length=E.length)) (r7 .str ag r E (s.2.1.2.1++[i]) fun k v=>BODY X s i k v))) (o,(E.length,[],E.length),()):=by
 have hn:E.length=es.length:=by rw[hE,List.length_map]
 refine xE (fun s=>∃ (seen:List Nat) (o2:List ByteArray),s=(o++o2,(E.length,seen,E.length),())∧seen.Nodup∧(∀ i∈seen,i<es.length)∧(∀ s,s∈o2↔∃ i∈seen,∃ e,es[i]? = some e∧e.1=s∧P e=true)∧o2.length≤seen.length∧seen.length+(a7 E.length seen).length≤E.length) (fun s=>(a7 E.length s.2.1.2.1).length) ⟨[],[],by rw[List.append_nil],by simp,by simp,by simp,by simp,by rw[CC];simp⟩ ?_
 rintro X s ⟨seen,o2,rfl,hnd,hlt,hm,hl,hq⟩ hX
 dsimp only
 refine ⟨by simp,fun hnil=>?_,fun i hi=>⟨by simp,?_⟩⟩
 ·refine hexit o2 seen (fun s=>?_) (by omega)
  rw[hm]
  constructor
  ·rintro ⟨i,_,e,he,h1,h2⟩
   exact ⟨e,List.mem_of_getElem? he,h1,h2⟩
  ·rintro ⟨e,he,h1,h2⟩
   obtain ⟨i,hi,rfl⟩:=List.mem_iff_getElem.1 he
   refine ⟨i,?_,_,List.getElem?_eq_getElem hi,h1,h2⟩
   refine Classical.byContradiction fun hc=>?_
   have:i∈a7 E.length seen:=rW.2 ⟨by omega,hc⟩
   rw[hnil] at this;cases this
 ·have hi':=rW.1 hi
  have hie:i<es.length:=by omega
  have hst:=zQ hi
  subst hE
  have hnd2:(seen++[i]).Nodup:=by
   rw[List.nodup_append]
   exact ⟨hnd,by simp,fun a ha b hb=>by simp at hb;subst hb;exact fun e=>hi'.2 (e ▸ ha)⟩
  have hlt2:∀ j∈seen++[i],j<es.length:=fun j hj=>by
   rcases List.mem_append.1 hj with h|h
   ·exact hlt j h
   ·simp at h;omega
  have hpos:=List.length_pos_of_mem hi
  have hq2:(seen++[i]).length+(a7 (List.map (aH .str ag r) es).length (seen++[i])).length≤(List.map (aH .str ag r) es).length:=by simp only[List.length_append,List.length_singleton];omega
  refine QQ hie _ (hbody X _ seen i hie (by rw[List.length_append];omega) (by omega) (fun hP=>?_) fun hP=>?_)
  ·refine hX _ ⟨seen++[i],o2++[es[i].1],by rw[List.append_assoc],hnd2,hlt2,fun s=>?_,by simp;omega,hq2⟩ hst
   rw[List.mem_append,hm,List.mem_singleton]
   constructor
   ·rintro (⟨j,hj,h⟩|rfl)
    ·exact ⟨j,List.mem_append_left _ hj,h⟩
    ·exact ⟨i,by simp,_,List.getElem?_eq_getElem hie,rfl,hP⟩
   ·rintro ⟨j,hj,e,he,h1,h2⟩
    rcases List.mem_append.1 hj with h|h
    ·exact .inl ⟨j,h,e,he,h1,h2⟩
    ·rw[List.mem_singleton.1 h,List.getElem?_eq_getElem hie] at he
     cases he;exact .inr h1.symm
  ·refine hX _ ⟨seen++[i],o2,rfl,hnd2,hlt2,fun s=>?_,by simp;omega,hq2⟩ hst
   rw[hm]
   constructor
   ·rintro ⟨j,hj,h⟩;exact ⟨j,List.mem_append_left _ hj,h⟩
   ·rintro ⟨j,hj,e,he,h1,h2⟩
    rcases List.mem_append.1 hj with h|h
    ·exact ⟨j,h,e,he,h1,h2⟩
    ·rw[List.mem_singleton.1 h,List.getElem?_eq_getElem hie] at he
     cases he;rw[hP] at h2;cases h2
end
end Go.Pv
namespace Go.Pv
open Go Go.Proofs
theorem a8:Tryz.prog.follows .mixedOrders=true:=by kernel_rfl
theorem bA:bS Tryz.prog=true:=by kernel_rfl
end Go.Pv
set_option maxRecDepth 100000
namespace Go.Pv
open Go Go.Proofs
def fN (d:aR) (id:ByteArray):Option bY:=d.2.2.2.1.find? fun s=>decide (s.1=id)
def partOf (d:aR) (id:ByteArray):Option bK:=d.2.2.1.find? fun s=>decide (s.1=id)
def fL (d:aR) (id:ByteArray):Option bX:=d.2.1.find? fun s=>decide (s.1=id)
def iR:bY:=(⟨#[]⟩,⟨#[]⟩,⟨#[]⟩,0,0,0)
def iP:bX:=(⟨#[]⟩,0,⟨#[]⟩)
def iQ:bK:=(⟨#[]⟩,0,0,⟨#[]⟩,⟨#[]⟩,0,([],[]),⟨#[]⟩,0,0,(0,0,0),(0,0,0),0)
def found {α:Type} (no:α) (o:Option α):α×Bool:=match o with
 | some s=>(s,true)
 | none=>(no,false)
def AI (x:aR×ByteArray):Option T:=some (Sh.enc [(true,aN),(false,.bool)] (found iR (fN x.1 x.2)))
def AH (x:aR×ByteArray):Option T:=some (Sh.enc [(true,aI),(false,.bool)] (found iQ (partOf x.1 x.2)))
def AG (x:aR×ByteArray):Option T:=some (Sh.enc [(true,aM),(false,.bool)] (found iP (fL x.1 x.2)))
abbrev gO:=AI
abbrev gN:=AH
abbrev gL:=AG
noncomputable def JM:Env:=Env.of []
def J8:FuncId→Hint:=iE 96 [(2,.inv [.val 6 false (.int .i64),.fix 1])] (fun _=>bL)
theorem C9:aG Tryz.prog JM:=.nil _
def d0:T:=T.v (.int .i64 0)
def d6:T:=T.v (.string {data:=#[]})
def t1(a0:aR):List (List T):=List.map aN.enc a0.2.2.2.1
def s7(a0:aR)(a1:ByteArray)(R:T→Prop):Prop:=mO (aE.rows false [[D.p d6,D.p d6, D.p d6,D.p d0, D.p d0,D.p d0]]) (aE.rows false [[D.p d6,D.p d6, D.p d6,D.p d0, D.p d0,D.p d0]]) (bB (Int×PUnit×PUnit) (fun X0 s1=>aD (decide (s1.1<(↑(t1 a0).length:Int))) (aO aN (t1 a0) s1.1 fun (y2:bY)=>aD (decide (y2.1=a1)) (aO aN (t1 a0) s1.1 fun (y3:bY)=>R (T.cB [aJ true aN y3,T.v (.bool true)])) (mO (aE.rows false [[D.p d6, D.p d6, D.p d6, D.p d0, D.p d0, D.p d0]]) (aE.rows false [[D.p d6, D.p d6, D.p d6, D.p d0, D.p d0, D.p d0]]) (X0 (IntKind.i64.wrap (s1.1+1),(),())))) (R (T.cB [T.agg [T.v (.string {data:=#[]}),T.v (.string {data:=#[]}), T.v (.string {data:=#[]}),T.v (.int .i64 0), T.v (.int .i64 0),T.v (.int .i64 0)], T.v (.bool false)]))) (0,(),()))
abbrev vG:Sh:=[(true,aC),(false,Sy.str)]
noncomputable def jH:List T→Option T:=gS vG gO
theorem rS {a0 a1}:jH [aJ true aC a0,T.v (.string a1)]=gO (a0,a1):=bW (s:=vG) rfl (a0,a1) rfl
theorem IW:vS Tryz.prog 96 jH gO (dS vG) s7:=iS (a1:=(true,aC)) (a2:=(false,Sy.str)) (sp:=gO) (F:=s7) (Hs:=J8) (f:=96) (k:=8) C9 a8 bA (aV rfl) ⟨_,_,Tryz.func96,rfl⟩ rfl fun _ _ _=>by kernel_rfl
theorem HS:aW Tryz.prog 96 jH:=IW fun d id r h hb=>by
 have hl:d.2.2.2.1.length≤2 ^ 47:=hb.1.2.2.2.1.1
 unfold s7 t1 d6 d0
 rw[dQ]
 refine eD d.2.2.2.1.length (fun k s=>s=((k:Int),(),())∧(d.2.2.2.1.drop k).find? (fun s=>decide (s.1=id))=fN d id) ⟨rfl,rfl⟩ ?_
 rintro X k s hk ⟨rfl,hf⟩ hX
 simp only[List.length_map,zP,dQ]
 by_cases hlt:k<d.2.2.2.1.length
 ·rw[nA hlt] at hf
  simp only[hlt,decide_true,aD,c0 (r:=aN) hlt]
  cases hc:decide (d.2.2.2.1[k].1=id) with
  | true =>
   simp only[hc,if_true] at hf
   simp only[gO,AI,←hf] at h
   cases h;rfl
  | false =>
   simp only[hc] at hf
   refine hX _ hlt ⟨?_,hf⟩
   simp only[Prod.mk.injEq,and_true]
   exact fS _ (by omega) (by omega)
 ·have:k=d.2.2.2.1.length:=by omega
  subst this
  simp only[List.drop_length,List.find?_nil] at hf
  simp only[gO,AI,←hf] at h
  simp only[hlt,decide_false,aD]
  cases h;rfl
noncomputable def JI:Env:=Env.of []
def J4:FuncId→Hint:=iE 95 [(2,.inv [.val 6 false (.int .i64),.fix 1])] (fun _=>bL)
theorem C5:aG Tryz.prog JI:=.nil _
def d8:T:=T.v (Value.slice none 0 0)
def t6(a0:aR):List (List T):=List.map aI.enc a0.2.2.1
def sY(a0:aR)(a1:ByteArray)(R:T→Prop):Prop:=mO (aE.rows false [[D.p d6,D.p d0, D.p d0,D.p d6, D.p d6,D.p d0, D.p d8,D.p d8, D.p d6,D.p d0, D.p d0,D.p d0, D.p d0,D.p d0, D.p d0,D.p d0, D.p d0,D.p d0]]) (aE.rows false [[D.p d6,D.p d0, D.p d0,D.p d6, D.p d6,D.p d0, D.p d8,D.p d8, D.p d6,D.p d0, D.p d0,D.p d0, D.p d0,D.p d0, D.p d0,D.p d0, D.p d0,D.p d0]]) (bB (Int×PUnit×PUnit) (fun X0 s1=>aD (decide (s1.1<(↑(t6 a0).length:Int))) (aO aI (t6 a0) s1.1 fun (y2:bK)=>aD (decide (y2.1=a1)) (aO aI (t6 a0) s1.1 fun (y3:bK)=>R (T.cB [aJ true aI y3,T.v (.bool true)])) (mO (aE.rows false [[D.p d6, D.p d0, D.p d0, D.p d6, D.p d6, D.p d0, D.p d8,D.p d8, D.p d6, D.p d0, D.p d0, D.p d0, D.p d0, D.p d0, D.p d0, D.p d0, D.p d0, D.p d0]]) (aE.rows false [[D.p d6, D.p d0, D.p d0, D.p d6, D.p d6, D.p d0, D.p d8,D.p d8, D.p d6, D.p d0, D.p d0, D.p d0, D.p d0, D.p d0, D.p d0, D.p d0, D.p d0, D.p d0]]) (X0 (IntKind.i64.wrap (s1.1+1),(),())))) (R (T.cB [T.agg [T.v (.string {data:=#[]}),T.v (.int .i64 0), T.v (.int .i64 0),T.v (.string {data:=#[]}), T.v (.string {data:=#[]}),T.v (.int .i64 0), T.sl false [],T.sl false [],T.v (.string {data:=#[]}), T.v (.int .i64 0),T.v (.int .i64 0), T.v (.int .i64 0),T.v (.int .i64 0), T.v (.int .i64 0),T.v (.int .i64 0), T.v (.int .i64 0),T.v (.int .i64 0), T.v (.int .i64 0)], T.v (.bool false)]))) (0,(),()))
abbrev vC:Sh:=[(true,aC),(false,Sy.str)]
noncomputable def jE:List T→Option T:=gS vC gN
theorem rQ {a0 a1}:jE [aJ true aC a0,T.v (.string a1)]=gN (a0,a1):=bW (s:=vC) rfl (a0,a1) rfl
theorem IS:vS Tryz.prog 95 jE gN (dS vC) sY:=iS (a1:=(true,aC)) (a2:=(false,Sy.str)) (sp:=gN) (F:=sY) (Hs:=J4) (f:=95) (k:=8) C5 a8 bA (aV rfl) ⟨_,_,Tryz.func95,rfl⟩ rfl fun _ _ _=>by kernel_rfl
theorem HO:aW Tryz.prog 95 jE:=IS fun d id r h hb=>by
 have hl:d.2.2.1.length≤2 ^ 47:=hb.1.2.2.1.1
 unfold sY t6 d8 d6 d0
 rw[dQ]
 refine eD d.2.2.1.length (fun k s=>s=((k:Int),(),())∧(d.2.2.1.drop k).find? (fun s=>decide (s.1=id))=partOf d id) ⟨rfl,rfl⟩ ?_
 rintro X k s hk ⟨rfl,hf⟩ hX
 simp only[List.length_map,zP,dQ]
 by_cases hlt:k<d.2.2.1.length
 ·rw[nA hlt] at hf
  simp only[hlt,decide_true,aD,c0 (r:=aI) hlt]
  cases hc:decide (d.2.2.1[k].1=id) with
  | true =>
   simp only[hc,if_true] at hf
   simp only[gN,AH,←hf] at h
   cases h;rfl
  | false =>
   simp only[hc] at hf
   refine hX _ hlt ⟨?_,hf⟩
   simp only[Prod.mk.injEq,and_true]
   exact fS _ (by omega) (by omega)
 ·have:k=d.2.2.1.length:=by omega
  subst this
  simp only[List.drop_length,List.find?_nil] at hf
  simp only[gN,AH,←hf] at h
  simp only[hlt,decide_false,aD]
  cases h;rfl
noncomputable def JG:Env:=Env.of []
def J2:FuncId→Hint:=iE 94 [(2,.inv [.val 6 false (.int .i64),.fix 1])] (fun _=>bL)
theorem C3:aG Tryz.prog JG:=.nil _
def t2(a0:aR):List (List T):=List.map aM.enc a0.2.1
def sW(a0:aR)(a1:ByteArray)(R:T→Prop):Prop:=mO (aE.rows false [[D.p d6,D.p d0, D.p d6]]) (aE.rows false [[D.p d6,D.p d0, D.p d6]]) (bB (Int×PUnit×PUnit) (fun X0 s1=>aD (decide (s1.1<(↑(t2 a0).length:Int))) (aO aM (t2 a0) s1.1 fun (y2:bX)=>aD (decide (y2.1=a1)) (aO aM (t2 a0) s1.1 fun (y3:bX)=>R (T.cB [aJ true aM y3,T.v (.bool true)])) (mO (aE.rows false [[D.p d6, D.p d0, D.p d6]]) (aE.rows false [[D.p d6, D.p d0, D.p d6]]) (X0 (IntKind.i64.wrap (s1.1+1),(),())))) (R (T.cB [T.agg [T.v (.string {data:=#[]}),T.v (.int .i64 0), T.v (.string {data:=#[]})], T.v (.bool false)]))) (0,(),()))
abbrev vA:Sh:=[(true,aC),(false,Sy.str)]
noncomputable def jC:List T→Option T:=gS vA gL
theorem rO {a0 a1}:jC [aJ true aC a0,T.v (.string a1)]=gL (a0,a1):=bW (s:=vA) rfl (a0,a1) rfl
theorem IP:vS Tryz.prog 94 jC gL (dS vA) sW:=iS (a1:=(true,aC)) (a2:=(false,Sy.str)) (sp:=gL) (F:=sW) (Hs:=J2) (f:=94) (k:=8) C3 a8 bA (aV rfl) ⟨_,_,Tryz.func94,rfl⟩ rfl fun _ _ _=>by kernel_rfl
theorem HL:aW Tryz.prog 94 jC:=IP fun d id r h hb=>by
 have hl:d.2.1.length≤2 ^ 47:=hb.1.2.1.1
 unfold sW t2 d6 d0
 rw[dQ]
 refine eD d.2.1.length (fun k s=>s=((k:Int),(),())∧(d.2.1.drop k).find? (fun s=>decide (s.1=id))=fL d id) ⟨rfl,rfl⟩ ?_
 rintro X k s hk ⟨rfl,hf⟩ hX
 simp only[List.length_map,zP,dQ]
 by_cases hlt:k<d.2.1.length
 ·rw[nA hlt] at hf
  simp only[hlt,decide_true,aD,c0 (r:=aM) hlt]
  cases hc:decide (d.2.1[k].1=id) with
  | true =>
   simp only[hc,if_true] at hf
   simp only[gL,AG,←hf] at h
   cases h;rfl
  | false =>
   simp only[hc] at hf
   refine hX _ hlt ⟨?_,hf⟩
   simp only[Prod.mk.injEq,and_true]
   exact fS _ (by omega) (by omega)
 ·have:k=d.2.1.length:=by omega
  subst this
  simp only[List.drop_length,List.find?_nil] at hf
  simp only[gL,AG,←hf] at h
  simp only[hlt,decide_false,aD]
  cases h;rfl
end Go.Pv
namespace Go.Pv
open Go Go.Proofs
end Go.Pv
namespace Go.Pv
open Go Go.Proofs
abbrev kR:Sh:=[(false,.bool)]
theorem lJ {p:Prop} {i:Decidable p} (h:p) {A B:Prop} (ha:A):aD (@decide p i) A B:=by rw[show @decide p i=true from decide_eq_true h];exact ha
theorem pR {p:Prop} {i:Decidable p} (h:¬ p) {A B:Prop} (hb:B):aD (@decide p i) A B:=by rw[show @decide p i=false from decide_eq_false h];exact hb
theorem UG {p:Prop} {i:Decidable p} {A B:Prop} (h1:p→A) (h2:¬ p→B):aD (@decide p i) A B:=by
 by_cases h:p
 ·rw[decide_eq_true h];exact h1 h
 ·rw[decide_eq_false h];exact h2 h
theorem T0 {p:Prop} {i:Decidable p} {A B:Prop} (h1:¬ p→A) (h2:p→B):aD (!(@decide p i)) A B:=by
 by_cases h:p
 ·rw[decide_eq_true h];exact h2 h
 ·rw[decide_eq_false h];exact h1 h
theorem R4 {c:Bool} {A B:Prop} (h1:c=true→A) (h2:c=false→B):aD c A B:=by cases c with
 | true=>exact h1 rfl
 | false=>exact h2 rfl
theorem uO {c:Bool} {A B:Prop} (h1:c=false→A) (h2:c=true→B):aD (!c) A B:=by cases c with
 | true=>exact h2 rfl
 | false=>exact h1 rfl
end Go.Pv
namespace Go.Pv
open Go Go.Proofs
theorem DP {l:List ByteArray} (h:l.length≤8000000000000) (K:Prop):bT (decide (((List.map Sy.str.enc l).length+1)*16≤140737488355328)&&decide ((List.map Sy.str.enc l).length+1≤140737488355328)) K=K:=by
 have e:(decide (((List.map Sy.str.enc l).length+1)*16≤140737488355328)&&decide ((List.map Sy.str.enc l).length+1≤140737488355328))=true:=by
  simp only[List.length_map,Bool.and_eq_true,decide_eq_true_eq]
  omega
 rw[e];simp[bT]
theorem tR {l:List ByteArray} {x:ByteArray} (K:List ByteArray→Prop):b7 Sy.str (List.map Sy.str.enc l++[[T.v (.string x)]]) K=K (l++[x]):=HA (r:=.str) rfl l _ x rfl K
end Go.Pv
namespace Go.Pv
open Go Go.Proofs
noncomputable def fE {α:Type} (a b:α):Bool:=@decide (a=b) (Classical.propDecidable _)
theorem bM {α:Type} {a b:α}:fE a b=true↔a=b:=by unfold fE;exact @decide_eq_true_iff _ (Classical.propDecidable _)
@[simp] theorem KY {α:Type} (a:α):fE a a=true:=bM.2 rfl
theorem oJ {α:Type} {a b:α} (h:¬ a=b):fE a b=false:=by
 cases hc:fE a b with
 | false=>rfl
 | true=>exact absurd (bM.1 hc) h
theorem uQ (c d:Bool) (r:T):aD c (T.v (.bool d)=r) (T.v (.bool false)=r)=(T.v (.bool (c&&d))=r):=by cases c<;>simp[aD]
theorem q9 (c d:Bool) (r:T):aD (!c) (T.v (.bool false)=r) (T.v (.bool d)=r)=(T.v (.bool (c&&d))=r):=by cases c<;>simp[aD]
theorem KX (x:Bool):Sh.enc kR x=T.v (.bool x):=rfl
theorem jJ (y:Bool) (K:Bool→Prop):aY [(false,Sy.bool)] (some (Sh.enc kR y)) K=K y:=G6 (s:=kR) rfl y K
theorem I7 {r:Sy} {l m:List r.den} (hlen:l.length=m.length) (hl:l.length≤2 ^ 47) (test:r.den→r.den→Bool) (ht:∀ x y,test x y=true↔x=y) {R:T→Prop} (hR:R (T.v (.bool (fE l m)))) :
  bB (Int×PUnit) (fun (X:Int×PUnit→Prop) (s:Int×PUnit)=>aD (decide (s.1<(↑(List.map r.enc l).length:Int))) (aO r (List.map r.enc l) s.1 fun y=>aO r (List.map r.enc m) s.1 fun z=>aD (!(test y z)) (R (T.v (.bool false))) (X (IntKind.i64.wrap (s.1+1),()))) (R (T.v (.bool true)))) (0,()):=by
 refine eD l.length (fun k s=>s=((k:Int),())∧(l=m↔l.drop k=m.drop k)) ⟨rfl,by simp⟩ ?_
 rintro X k s hk ⟨rfl,he⟩ hX
 dsimp only
 by_cases hlt:k<l.length
 ·have hlt2:k<m.length:=by omega
  refine lJ (by simp[hlt]) ?_
  rw[c0 hlt,c0 hlt2]
  rw[List.drop_eq_getElem_cons hlt,List.drop_eq_getElem_cons hlt2,List.cons.injEq] at he
  by_cases h1:l[k]=m[k]
  ·rw[(ht _ _).2 h1,Bool.not_true,EJ]
   refine hX _ hlt ⟨by rw[show IntKind.i64.wrap ((k:Int)+1)=((k+1:Nat):Int) from fS _ (by omega) (by omega)],?_⟩
   rw[he];exact ⟨fun h=>h.2,fun h=>⟨h1,h⟩⟩
  ·have:test l[k] m[k]=false:=by
    cases hc:test l[k] m[k] with
    | false=>rfl
    | true=>exact absurd ((ht _ _).1 hc) h1
   rw[this,Bool.not_false,EK]
   rwa[oJ fun h=>h1 (he.1 h).1] at hR
 ·have:k=l.length:=by omega
  subst this
  refine pR (by simp) ?_
  rwa[bM.2 (he.2 (by rw[List.drop_length,hlen,List.drop_length]))] at hR
theorem jM {r:Sy} {l m:List r.den} (hl:l.length≤2 ^ 47) (test:r.den→r.den→Bool) (ht:∀ x y,test x y=true↔x=y) {R:T→Prop} (hR:R (T.v (.bool (fE l m)))) :
  aD (!decide ((↑(List.map r.enc l).length:Int)=(↑(List.map r.enc m).length:Int))) (R (T.v (.bool false))) (bB (Int×PUnit) (fun (X:Int×PUnit→Prop) (s:Int×PUnit)=>aD (decide (s.1<(↑(List.map r.enc l).length:Int))) (aO r (List.map r.enc l) s.1 fun y=>aO r (List.map r.enc m) s.1 fun z=>aD (!(test y z)) (R (T.v (.bool false))) (X (IntKind.i64.wrap (s.1+1),()))) (R (T.v (.bool true)))) (0,())):=by
 by_cases hlen:l.length=m.length
 ·rw[show (!decide ((↑(List.map r.enc l).length:Int)=(↑(List.map r.enc m).length:Int)))=false by simp[hlen],EJ]
  exact I7 hlen hl test ht hR
 ·rw[show (!decide ((↑(List.map r.enc l).length:Int)=(↑(List.map r.enc m).length:Int)))=true by simp;omega,EK]
  rwa[oJ fun h=>hlen (by rw[h])] at hR
def fM (d:aR) (id:ByteArray):Option aQ:=d.2.2.2.2.1.find? fun s=>decide (s.1=id)
def noPack:aQ:=(⟨#[]⟩,⟨#[]⟩,[],0,[])
def gM (x:aR×ByteArray):Option T:=some (Sh.enc [(true,aA),(false,.bool)] (found noPack (fM x.1 x.2)))
noncomputable def JH:Env:=Env.of []
def J3:FuncId→Hint:=iE 97 [(2,.inv [.val 6 false (.int .i64),.fix 1])] (fun _=>bL)
theorem C4:aG Tryz.prog JH:=.nil _
def m8(a0:aR):List (List T):=List.map aA.enc a0.2.2.2.2.1
def sX(a0:aR)(a1:ByteArray)(R:T→Prop):Prop:=mO (aE.rows false [[D.p d6,D.p d6, D.p d8,D.p d0, D.p d8]]) (aE.rows false [[D.p d6,D.p d6, D.p d8,D.p d0, D.p d8]]) (bB (Int×PUnit×PUnit) (fun X0 s1=>aD (decide (s1.1<(↑(m8 a0).length:Int))) (aO aA (m8 a0) s1.1 fun (y2:aQ)=>aD (decide (y2.1=a1)) (aO aA (m8 a0) s1.1 fun (y3:aQ)=>R (T.cB [aJ true aA y3,T.v (.bool true)])) (mO (aE.rows false [[D.p d6, D.p d6, D.p d8, D.p d0, D.p d8]]) (aE.rows false [[D.p d6, D.p d6, D.p d8, D.p d0, D.p d8]]) (X0 (IntKind.i64.wrap (s1.1+1),(),())))) (R (T.cB [T.agg [T.v (.string {data:=#[]}),T.v (.string {data:=#[]}), T.sl false [],T.v (.int .i64 0),T.sl false []], T.v (.bool false)]))) (0,(),()))
abbrev vB:Sh:=[(true,aC),(false,Sy.str)]
noncomputable def jD:List T→Option T:=gS vB gM
theorem rP {a0 a1}:jD [aJ true aC a0,T.v (.string a1)]=gM (a0,a1):=bW (s:=vB) rfl (a0,a1) rfl
theorem IQ:vS Tryz.prog 97 jD gM (dS vB) sX:=iS (a1:=(true,aC)) (a2:=(false,Sy.str)) (sp:=gM) (F:=sX) (Hs:=J3) (f:=97) (k:=8) C4 a8 bA (aV rfl) ⟨_,_,Tryz.func97,rfl⟩ rfl fun _ _ _=>by kernel_rfl
theorem HN:aW Tryz.prog 97 jD:=IQ fun d id r h hb=>by
 have hl:d.2.2.2.2.1.length≤2 ^ 47:=hb.1.2.2.2.2.1.1
 unfold sX m8 d8 d6 d0
 rw[dQ]
 refine eD d.2.2.2.2.1.length (fun k s=>s=((k:Int),(),())∧(d.2.2.2.2.1.drop k).find? (fun s=>decide (s.1=id))=fM d id) ⟨rfl,rfl⟩ ?_
 rintro X k s hk ⟨rfl,hf⟩ hX
 simp only[List.length_map,zP,dQ]
 by_cases hlt:k<d.2.2.2.2.1.length
 ·rw[nA hlt] at hf
  simp only[hlt,decide_true,aD,c0 (r:=aA) hlt]
  cases hc:decide (d.2.2.2.2.1[k].1=id) with
  | true =>
   simp only[hc,if_true] at hf
   simp only[gM,←hf] at h
   cases h;rfl
  | false =>
   simp only[hc] at hf
   refine hX _ hlt ⟨?_,hf⟩
   simp only[Prod.mk.injEq,and_true]
   exact fS _ (by omega) (by omega)
 ·have:k=d.2.2.2.2.1.length:=by omega
  subst this
  simp only[List.drop_length,List.find?_nil] at hf
  simp only[gM,←hf] at h
  simp only[hlt,decide_false,aD]
  cases h;rfl
noncomputable def jN (x:List dG×List dG):Option T:=some (Sh.enc kR (fE x.1 x.2))
noncomputable def jO (x:tA×tA):Option T:=some (Sh.enc kR (fE x.1 x.2))
noncomputable def eX (x:bK×bK):Option T:=some (Sh.enc kR (fE x.1 x.2))
noncomputable def fR:=eX
noncomputable def mR (x:List ByteArray×List ByteArray):Option T:=some (Sh.enc kR (fE x.1 x.2))
noncomputable def iJ (x:aQ×aQ):Option T:=some (Sh.enc kR (fE x.1 x.2))
noncomputable def JK:Env:=Env.of []
def J6:FuncId→Hint:=iE 176 [(4,.inv [.val 5 false (.int .i64)])] (fun _=>bL)
theorem C7:aG Tryz.prog JK:=.nil _
def d7:T:=T.v (.bool false)
def eI:T:=T.v (.bool true)
def H1(X1:Int×PUnit→Prop)(s2:Int×PUnit):Prop:=X1 (IntKind.i64.wrap (s2.1+1),())
def EQ(a0:List dG):List (List T):=List.map aT.enc a0
def m5(a0:List dG)(a1:List dG)(R:T→Prop):Prop:=bB (Int×PUnit) (fun X0 s1=>aD (decide (s1.1<(↑(EQ a0).length:Int))) (aO aT (EQ a0) s1.1 fun (y2:dG)=>aO aT (EQ a1) s1.1 fun (y3:dG)=>aD (!(decide (y2.1=y3.1)&&(decide (y2.2=y3.2)&&true))) (R d7) (H1 X0 s1)) (R eI)) (0,())
def s0(a0:List dG)(a1:List dG)(R:T→Prop):Prop:=aD (!decide ((↑(EQ a0).length:Int)=(↑(EQ a1).length:Int))) (R d7) (m5 a0 a1 R)
abbrev vE:Sh:=[(false,aT.li),(false,aT.li)]
noncomputable def jG:List T→Option T:=gS vE jN
theorem BY {a0 a1}:jG [T.sl false (List.map aT.enc a0),T.sl false (List.map aT.enc a1)]=jN (a0,a1):=bW (s:=vE) rfl (a0,a1) rfl
theorem IU:vS Tryz.prog 176 jG jN (dS vE) s0:=iS (a1:=(false,aT.li)) (a2:=(false,aT.li)) (sp:=jN) (F:=s0) (Hs:=J6) (f:=176) (k:=8) C7 a8 bA (aV rfl) ⟨_,_,Tryz.func176,rfl⟩ rfl fun _ _ _=>by kernel_rfl
theorem HQ:aW Tryz.prog 176 jG:=IU fun a b r h hb=>by
 cases h
 unfold s0 m5 EQ H1 eI d7
 refine jM (r:=aT) (R:=fun y=>y=Sh.enc kR (fE a b)) hb.1.1 _ (fun x y=>?_) rfl
 simp only[Bool.and_true,Bool.and_eq_true,decide_eq_true_eq,Prod.ext_iff]
noncomputable def JL:Env:=Env.of [(176,.pure jG)]
def J7:FuncId→Hint:=iE 120 [(4,.inv [.val 5 false (.int .i64)])] (fun _=>bL)
theorem C8:aG Tryz.prog JL:=.cons HQ (.nil _)
def d9:Sh:=[(false,Sy.bool)]
def IO(a0:tA):List (List T):=List.map aT.li.enc a0.2
def s4(a0:tA)(a1:tA)(R:T→Prop):Prop:=aY d9 (jG [T.sl false (List.map aT.enc a0.1),T.sl false (List.map aT.enc a1.1)]) fun (y0:Bool)=>aD (!y0) (R d7) (aD (!decide ((↑(IO a0).length:Int) = (↑(IO a1).length:Int))) (R d7) (bB (Int×PUnit) (fun X1 s2=>aD (decide (s2.1<(↑(IO a0).length:Int))) (aO aT.li (IO a0) s2.1 fun (y3:List dG)=>aO aT.li (IO a1) s2.1 fun (y4:List dG)=>aY d9 (jG [T.sl false (EQ y3),T.sl false (EQ y4)]) fun (y5:Bool)=>aD (!y5) (R d7) (H1 X1 s2)) (R eI)) (0,())))
abbrev vF:Sh:=[(true,kG),(true,kG)]
noncomputable def lD:List T→Option T:=gS vF jO
theorem BZ {a0 a1}:lD [aJ true kG a0,aJ true kG a1]=jO (a0,a1):=bW (s:=vF) rfl (a0,a1) rfl
theorem IV:vS Tryz.prog 120 lD jO (dS vF) s4:=iS (a1:=(true,kG)) (a2:=(true,kG)) (sp:=jO) (F:=s4) (Hs:=J7) (f:=120) (k:=8) C8 a8 bA (aV rfl) ⟨_,_,Tryz.func120,rfl⟩ rfl fun _ _ _=>by kernel_rfl
theorem HR:aW Tryz.prog 120 lD:=IV fun a b r h hb=>by
 cases h
 unfold s4 IO EQ H1 eI d9 d7
 have u:=@BY
 simp only[u,jN,jJ]
 by_cases h1:a.1=b.1
 ·rw[bM.2 h1,Bool.not_true,EJ]
  refine jM (r:=.li aT) (R:=fun y=>y=Sh.enc kR (fE a b)) hb.1.2.1 _ (fun x y=>bM) ?_
  show T.v (.bool (fE a.2 b.2))=T.v (.bool (fE a b))
  congr 2
  rw[Bool.eq_iff_iff,bM,bM,Prod.ext_iff]
  exact ⟨fun h=>⟨h1,h⟩,fun h=>h.2⟩
 ·rw[oJ h1,Bool.not_false,EK,oJ fun h=>h1 (by rw[h])];rfl
noncomputable def C2:Env:=Env.of [(120,.pure lD)]
def DI:FuncId→Hint:=fun _=>bL
theorem yG:aG Tryz.prog C2:=.cons HR (.nil _)
def oF(a0:bK)(a1:bK)(R:T→Prop):Prop:=aD (!decide (a0.1=a1.1)) (R d7) (aD (!decide (a0.2.1=a1.2.1)) (R d7) (aD (!decide (a0.2.2.1=a1.2.2.1)) (R d7) (aD (!decide (a0.2.2.2.1=a1.2.2.2.1)) (R d7) (aD (!decide (a0.2.2.2.2.1=a1.2.2.2.2.1)) (R d7) (aD (!decide (a0.2.2.2.2.2.1=a1.2.2.2.2.2.1)) (R d7) (aY d9 (lD [aJ true kG a0.2.2.2.2.2.2.1, aJ true kG a1.2.2.2.2.2.2.1]) fun (y0:Bool)=>aD y0 (aD (decide (a0.2.2.2.2.2.2.2.1=a1.2.2.2.2.2.2.2.1)) (aD (decide (a0.2.2.2.2.2.2.2.2.1=a1.2.2.2.2.2.2.2.2.1)) (aD (decide (a0.2.2.2.2.2.2.2.2.2.1=a1.2.2.2.2.2.2.2.2.2.1)) (aD (decide (a0.2.2.2.2.2.2.2.2.2.2.1.1 = a1.2.2.2.2.2.2.2.2.2.2.1.1) && (decide (a0.2.2.2.2.2.2.2.2.2.2.1.2.1 = a1.2.2.2.2.2.2.2.2.2.2.1.2.1) && (decide (a0.2.2.2.2.2.2.2.2.2.2.1.2.2 = a1.2.2.2.2.2.2.2.2.2.2.1.2.2) && true))) (R (T.v (.bool (decide (a0.2.2.2.2.2.2.2.2.2.2.2.1.1 = a1.2.2.2.2.2.2.2.2.2.2.2.1.1) && (decide (a0.2.2.2.2.2.2.2.2.2.2.2.1.2.1 = a1.2.2.2.2.2.2.2.2.2.2.2.1.2.1) && (decide (a0.2.2.2.2.2.2.2.2.2.2.2.1.2.2 = a1.2.2.2.2.2.2.2.2.2.2.2.1.2.2) && true)) && (decide (a0.2.2.2.2.2.2.2.2.2.2.2.2 = a1.2.2.2.2.2.2.2.2.2.2.2.2) && true))))) (R d7)) (R d7)) (R d7)) (R d7)) (R d7)))))))
abbrev oZ:Sh:=[(true,aI),(true,aI)]
noncomputable def gW:List T→Option T:=gS oZ eX
theorem wD {a0 a1}:gW [aJ true aI a0,aJ true aI a1]=eX (a0,a1):=bW (s:=oZ) rfl (a0,a1) rfl
theorem CJ:vS Tryz.prog 67 gW eX (dS oZ) oF:=iS (a1:=(true,aI)) (a2:=(true,aI)) (sp:=eX) (F:=oF) (Hs:=DI) (f:=67) (k:=8) yG a8 bA (aV rfl) ⟨_,_,Tryz.func67,rfl⟩ rfl fun _ _ _=>by kernel_rfl
theorem BT:aW Tryz.prog 67 gW:=CJ fun a b r h hb=>by
 cases h
 unfold oF d9 d7
 simp only[BZ,jO,jJ]
 simp only[KX,uQ,q9]
 congr 2
 rw[Bool.eq_iff_iff,bM]
 simp only[Bool.and_true,Bool.and_eq_true,decide_eq_true_eq,bM,Prod.ext_iff,and_assoc]
noncomputable def yC:Env:=Env.of [(67,.pure gW)]
def yL:FuncId→Hint:=fun _=>bL
theorem sV:aG Tryz.prog yC:=.cons BT (.nil _)
def jQ(a0:bK)(a1:bK)(R:T→Prop):Prop:=aY d9 (gW [aJ true aI a0,aJ true aI a1]) fun (y0:Bool)=>R (T.v (.bool y0))
abbrev kC:Sh:=[(true,aI),(true,aI)]
noncomputable def e5:List T→Option T:=gS kC fR
theorem r8 {a0 a1}:e5 [aJ true aI a0,aJ true aI a1]=fR (a0,a1):=bW (s:=kC) rfl (a0,a1) rfl
theorem wH:vS Tryz.prog 98 e5 fR (dS kC) jQ:=iS (a1:=(true,aI)) (a2:=(true,aI)) (sp:=fR) (F:=jQ) (Hs:=yL) (f:=98) (k:=8) sV a8 bA (aV rfl) ⟨_,_,Tryz.func98,rfl⟩ rfl fun _ _ _=>by kernel_rfl
theorem v8:aW Tryz.prog 98 e5:=wH fun a b r h hb=>by
 cases h
 unfold jQ d9
 simp only[wD,eX,jJ]
 rfl
noncomputable def M3:Env:=Env.of []
def M6:FuncId→Hint:=iE 26 [(4,.inv [.val 5 false (.int .i64)])] (fun _=>bL)
theorem GU:aG Tryz.prog M3:=.nil _
def f7(a0:List ByteArray):List (List T):=List.map Sy.str.enc a0
def g9(a0:List ByteArray)(a1:List ByteArray)(R:T→Prop):Prop:=bB (Int×PUnit) (fun X0 s1=>aD (decide (s1.1<(↑(f7 a0).length:Int))) (aO Sy.str (f7 a0) s1.1 fun (y2:ByteArray)=>aO Sy.str (f7 a1) s1.1 fun (y3:ByteArray)=>aD (!decide (y2=y3)) (R d7) (H1 X0 s1)) (R eI)) (0,())
def yH(a0:List ByteArray)(a1:List ByteArray)(R:T→Prop):Prop:=aD (!decide ((↑(f7 a0).length:Int)=(↑(f7 a1).length:Int))) (R d7) (g9 a0 a1 R)
abbrev AB:Sh:=[(false,Sy.str.li),(false,Sy.str.li)]
noncomputable def nB:List T→Option T:=gS AB mR
theorem ED {a0 a1}:nB [T.sl false (List.map Sy.str.enc a0),T.sl false (List.map Sy.str.enc a1)]=mR (a0,a1):=bW (s:=AB) rfl (a0,a1) rfl
theorem MA:vS Tryz.prog 26 nB mR (dS AB) yH:=iS (a1:=(false,Sy.str.li)) (a2:=(false,Sy.str.li)) (sp:=mR) (F:=yH) (Hs:=M6) (f:=26) (k:=8) GU a8 bA (aV rfl) ⟨_,_,Tryz.func26,rfl⟩ rfl fun _ _ _=>by kernel_rfl
theorem K7:aW Tryz.prog 26 nB:=MA fun a b r h hb=>by
 cases h
 unfold yH g9 H1 f7 eI d7
 exact jM (r:=.str) (R:=fun y=>y=Sh.enc kR (fE a b)) hb.1.1 _ (fun x y=>decide_eq_true_iff) rfl
noncomputable def C1:Env:=Env.of [(26,.pure nB)]
def DH:FuncId→Hint:=fun _=>bL
theorem yF:aG Tryz.prog C1:=.cons K7 (.nil _)
def FS(a0:aQ):List (List T):=List.map Sy.str.enc a0.2.2.2.2
def GE(a0:aQ):List (List T):=List.map Sy.str.enc a0.2.2.1
def oE(a0:aQ)(a1:aQ)(R:T→Prop):Prop:=aD (decide (a0.1=a1.1)) (aD (decide (a0.2.1=a1.2.1)) (aD (decide (a0.2.2.2.1=a1.2.2.2.1)) (aY d9 (nB [T.sl false (GE a0), T.sl false (GE a1)]) fun (y0:Bool)=>aD y0 (aY d9 (nB [T.sl false (FS a0), T.sl false (FS a1)]) fun (y1:Bool)=>R (T.v (.bool y1))) (R d7)) (R d7)) (R d7)) (R d7)
abbrev oY:Sh:=[(true,aA),(true,aA)]
noncomputable def gV:List T→Option T:=gS oY iJ
theorem wC {a0 a1}:gV [aJ true aA a0,aJ true aA a1]=iJ (a0,a1):=bW (s:=oY) rfl (a0,a1) rfl
theorem CI:vS Tryz.prog 68 gV iJ (dS oY) oE:=iS (a1:=(true,aA)) (a2:=(true,aA)) (sp:=iJ) (F:=oE) (Hs:=DH) (f:=68) (k:=8) yF a8 bA (aV rfl) ⟨_,_,Tryz.func68,rfl⟩ rfl fun _ _ _=>by kernel_rfl
theorem BS:aW Tryz.prog 68 gV:=CI fun a b r h hb=>by
 cases h
 unfold oE GE FS d9 d7
 have u:=@ED
 simp only[u,mR,jJ]
 simp only[KX,uQ,q9]
 congr 2
 rw[Bool.eq_iff_iff,bM]
 simp only[Bool.and_true,Bool.and_eq_true,decide_eq_true_eq,bM,Prod.ext_iff]
 exact ⟨fun ⟨h1,h2,h3,h4,h5⟩=>⟨h1,h2,h4,h3,h5⟩,fun ⟨h1,h2,h4,h3,h5⟩=>⟨h1,h2,h3,h4,h5⟩⟩
end Go.Pv
namespace Go.Pv
open Go Go.Proofs
def F0 (d:aR) (n:Int):Bool:=decide ((d.2.1.length:Int)≤n)&&decide ((d.2.2.1.length:Int)≤n)&&decide ((d.2.2.2.1.length:Int)≤n)&&decide ((d.2.2.2.2.1.length:Int)≤n)&&decide ((d.2.2.2.2.2.length:Int)≤n)&&d.2.2.2.2.1.all fun k=>decide ((k.2.2.1.length:Int)≤n)&&decide ((k.2.2.2.2.length:Int)≤n)
def AF (x:aR×Int):Option T:=some (Sh.enc kR (F0 x.1 x.2))
noncomputable def SF:Env:=Env.of []
def SI:FuncId→Hint:=iE 7 [(4,.inv [.val 5 false (.int .i64)])] (fun _=>bL)
theorem M5:aG Tryz.prog SF:=.nil _
def JW(a0:aR)(a1:Int)(R:T→Prop):Prop:=aD (decide (a1<(↑(t2 a0).length:Int))) (R d7) (aD (decide (a1<(↑(t6 a0).length:Int))) (R d7) (aD (decide (a1<(↑(t1 a0).length:Int))) (R d7) (aD (decide (a1<(↑(m8 a0).length:Int))) (R d7) (aD (decide (a1<(↑(List.map MW.enc a0.2.2.2.2.2).length:Int))) (R d7) (bB (Int×PUnit) (fun X0 s1=>aD (decide (s1.1<(↑(m8 a0).length:Int))) (aO aA (m8 a0) s1.1 fun (y2:aQ)=>aD (decide (a1<(↑(GE y2).length:Int))) (R d7) (aO aA (m8 a0) s1.1 fun (y3:aQ)=>aD (decide (a1<(↑(FS y3).length:Int))) (R d7) (H1 X0 s1))) (R eI)) (0,()))))))
abbrev MP:Sh:=[(true,aC),(false,(Sy.int IntKind.i64))]
noncomputable def w8:List T→Option T:=gS MP AF
theorem BX {a0 a1}:w8 [aJ true aC a0,T.v (.int .i64 a1)]=AF (a0,a1):=bW (s:=MP) rfl (a0,a1) rfl
theorem RI:vS Tryz.prog 7 w8 AF (dS MP) JW:=iS (a1:=(true,aC)) (a2:=(false,(Sy.int IntKind.i64))) (sp:=AF) (F:=JW) (Hs:=SI) (f:=7) (k:=8) M5 a8 bA (aV rfl) ⟨_,_,Tryz.func7,rfl⟩ rfl fun _ _ _=>by kernel_rfl
theorem j6 {n:Int} {m:Nat} {A B:Prop} (h1:¬ (m:Int)≤n→A) (h2:(m:Int)≤n→B):aD (decide (n<(m:Int))) A B:=by
 by_cases h:(m:Int)≤n
 ·exact pR (by omega) (h2 h)
 ·exact lJ (by omega) (h1 h)
theorem KJ {α:Type} {p:α→Bool} {l:List α} {k:Nat} (h:k<l.length):(l.drop k).all p=(p l[k]&&(l.drop (k+1)).all p):=by rw[List.drop_eq_getElem_cons h,List.all_cons]
theorem QT:aW Tryz.prog 7 w8:=RI fun d n r h hb=>by
 cases h
 have hl:d.2.2.2.2.1.length≤2 ^ 47:=hb.1.2.2.2.2.1.1
 have no:F0 d n=false→T.v (.bool false)=Sh.enc kR (F0 d n):=fun h=>by rw[h];rfl
 unfold JW GE FS t2 t1 H1 t6 m8 eI d7
 simp only[List.length_map]
 refine j6 (fun h=>no (by simp[F0,h])) fun g1=>?_
 refine j6 (fun h=>no (by simp[F0,h])) fun g2=>?_
 refine j6 (fun h=>no (by simp[F0,h])) fun g3=>?_
 refine j6 (fun h=>no (by simp[F0,h])) fun g4=>?_
 refine j6 (fun h=>no (by simp[F0,h])) fun g5=>?_
 refine eD d.2.2.2.2.1.length (fun k s=>s=((k:Int),())∧F0 d n=(d.2.2.2.2.1.drop k).all fun k=>decide ((k.2.2.1.length:Int)≤n)&&decide ((k.2.2.2.2.length:Int)≤n)) ⟨rfl,by simp only[F0,g1,g2,g3,g4,g5,decide_true,Bool.true_and,List.drop_zero]⟩ ?_
 rintro X k s hk ⟨rfl,he⟩ hX
 dsimp only
 by_cases hlt:k<d.2.2.2.2.1.length
 ·rw[KJ hlt] at he
  refine lJ (by simp[hlt]) ?_
  rw[c0 (r:=aA) hlt]
  try simp only[List.length_map]
  refine j6 (fun h=>no (by rw[he];simp[h])) fun g6=>?_
  try rw[c0 (r:=aA) hlt]
  try simp only[List.length_map]
  refine j6 (fun h=>no (by rw[he];simp[h])) fun g7=>?_
  refine hX _ hlt ⟨by rw[show IntKind.i64.wrap ((k:Int)+1)=((k+1:Nat):Int) from fS _ (by omega) (by omega)],?_⟩
  rw[he]
  simp only[g6,g7,decide_true,Bool.true_and]
 ·have:k=d.2.2.2.2.1.length:=by omega
  subst this
  refine pR (by simp) ?_
  rw[he];simp only[List.drop_length,List.all_nil];rfl
theorem Q5 {c:Bool} {A B:Prop} (h1:c=true→A) (h2:c=false→B):aD c A B:=by cases c with
 | true=>exact h1 rfl
 | false=>exact h2 rfl
theorem dT {c:Bool} {A B:Prop} (h1:c=false→A) (h2:c=true→B):aD (!c) A B:=by cases c with
 | true=>exact h2 rfl
 | false=>exact h1 rfl
end Go.Pv
namespace Go.Pv
open Go Go.Proofs
noncomputable def qC (x:List dG×List dG):Option T:=some (Sh.enc kR (fE x.1 x.2))
noncomputable def iI (x:bK×bK):Option T:=some (Sh.enc kR (fE x.1 x.2))
noncomputable def PX:Env:=Env.of []
def P5:FuncId→Hint:=iE 101 [(4,.inv [.val 13 false (.int .i64)])] (fun _=>bL)
theorem JO:aG Tryz.prog PX:=.nil _
def DB(a0:List dG)(a1:List dG)(R:T→Prop):Prop:=aD (!decide ((↑(EQ a0).length:Int)=(↑(EQ a1).length:Int))) (R d7) (m5 a0 a1 R)
abbrev E1:Sh:=[(false,aT.li),(false,aT.li)]
noncomputable def qV:List T→Option T:=gS E1 qC
theorem HX {a0 a1}:qV [T.sl false (List.map aT.enc a0),T.sl false (List.map aT.enc a1)]=qC (a0,a1):=bW (s:=E1) rfl (a0,a1) rfl
theorem OR:vS Tryz.prog 101 qV qC (dS E1) DB:=iS (a1:=(false,aT.li)) (a2:=(false,aT.li)) (sp:=qC) (F:=DB) (Hs:=P5) (f:=101) (k:=8) JO a8 bA (aV rfl) ⟨_,_,Tryz.func101,rfl⟩ rfl fun _ _ _=>by kernel_rfl
theorem N0:aW Tryz.prog 101 qV:=OR fun a b r h hb=>by
 cases h
 unfold DB m5 EQ H1 eI d7
 refine jM (r:=aT) (R:=fun y=>y=Sh.enc kR (fE a b)) hb.1.1 _ (fun x y=>?_) rfl
 simp only[Bool.and_true,Bool.and_eq_true,decide_eq_true_eq,Prod.ext_iff]
theorem KT {r:Sy} {l m:List r.den} (hlen:l.length=m.length) (hl:l.length≤2 ^ 47) (test:r.den→r.den→Bool) (ht:∀ x y,test x y=true↔x=y) {N Y:Prop} (hY:l=m→Y) (hN:¬ l=m→N) :
  bB (Int×PUnit) (fun (X:Int×PUnit→Prop) (s:Int×PUnit)=>aD (decide (s.1<(↑(List.map r.enc l).length:Int))) (aO r (List.map r.enc l) s.1 fun y=>aO r (List.map r.enc m) s.1 fun z=>aD (!(test y z)) N (X (IntKind.i64.wrap (s.1+1),()))) Y) (0,()):=by
 refine eD l.length (fun k s=>s=((k:Int),())∧(l=m↔l.drop k=m.drop k)) ⟨rfl,by simp⟩ ?_
 rintro X k s hk ⟨rfl,he⟩ hX
 dsimp only
 by_cases hlt:k<l.length
 ·have hlt2:k<m.length:=by omega
  refine lJ (by simp[hlt]) ?_
  rw[c0 hlt,c0 hlt2]
  rw[List.drop_eq_getElem_cons hlt,List.drop_eq_getElem_cons hlt2,List.cons.injEq] at he
  refine dT (fun h=>hN fun e=>?_) fun h=>?_
  ·rw[(ht _ _).2 (he.1 e).1] at h;cases h
  ·have h1:=(ht _ _).1 h
   refine hX _ hlt ⟨by rw[show IntKind.i64.wrap ((k:Int)+1)=((k+1:Nat):Int) from fS _ (by omega) (by omega)],?_⟩
   rw[he];exact ⟨fun h=>h.2,fun h=>⟨h1,h⟩⟩
 ·have:k=l.length:=by omega
  subst this
  refine pR (by simp) ?_
  exact hY (he.2 (by rw[List.drop_length,hlen,List.drop_length]))
theorem Q8 {α β:Type} {f:α→β} {l m:List α} (h:decide ((↑(List.map f l).length:Int)=(↑(List.map f m).length:Int))=true):l.length=m.length:=by simp at h;omega
theorem NM {r:Sy} {l m:List r.den} (hl:l.length≤2 ^ 47) (test:r.den→r.den→Bool) (ht:∀ x y,test x y=true↔x=y) {N Y:Prop} (hY:l=m→Y) (hN:¬ l=m→N) :
  aD (!decide ((↑(List.map r.enc l).length:Int)=(↑(List.map r.enc m).length:Int))) N (bB (Int×PUnit) (fun (X:Int×PUnit→Prop) (s:Int×PUnit)=>aD (decide (s.1<(↑(List.map r.enc l).length:Int))) (aO r (List.map r.enc l) s.1 fun y=>aO r (List.map r.enc m) s.1 fun z=>aD (!(test y z)) N (X (IntKind.i64.wrap (s.1+1),()))) Y) (0,())) :=
 dT (fun h=>hN fun e=>by simp[e] at h) fun h=>KT (Q8 h) hl test ht hY hN
noncomputable def C0:Env:=Env.of [(101,.pure qV)]
def DG:FuncId→Hint:=iE 102 [(4,.inv [.val 17 false (.int .i64)])] (fun _=>bL)
theorem yE:aG Tryz.prog C0:=.cons N0 (.nil _)
def AC(a0:bK):List (List T):=List.map aT.li.enc a0.2.2.2.2.2.2.1.2
def oD(a0:bK)(a1:bK)(R:T→Prop):Prop:=aD (!decide (a0.1=a1.1)) (R d7) (aD (!decide (a0.2.1=a1.2.1)) (R d7) (aD (!decide (a0.2.2.1=a1.2.2.1)) (R d7) (aD (!decide (a0.2.2.2.1=a1.2.2.2.1)) (R d7) (aD (!decide (a0.2.2.2.2.1=a1.2.2.2.2.1)) (R d7) (aD (!decide (a0.2.2.2.2.2.1=a1.2.2.2.2.2.1)) (R d7) (aD (!decide (a0.2.2.2.2.2.2.2.1=a1.2.2.2.2.2.2.2.1)) (R d7) (aD (!decide (a0.2.2.2.2.2.2.2.2.1=a1.2.2.2.2.2.2.2.2.1)) (R d7) (aD (!decide (a0.2.2.2.2.2.2.2.2.2.1=a1.2.2.2.2.2.2.2.2.2.1)) (R d7) (aD (!(decide (a0.2.2.2.2.2.2.2.2.2.2.1.1 = a1.2.2.2.2.2.2.2.2.2.2.1.1) && (decide (a0.2.2.2.2.2.2.2.2.2.2.1.2.1 = a1.2.2.2.2.2.2.2.2.2.2.1.2.1) && (decide (a0.2.2.2.2.2.2.2.2.2.2.1.2.2 = a1.2.2.2.2.2.2.2.2.2.2.1.2.2) && true)))) (R d7) (aD (!(decide (a0.2.2.2.2.2.2.2.2.2.2.2.1.1 = a1.2.2.2.2.2.2.2.2.2.2.2.1.1) && (decide (a0.2.2.2.2.2.2.2.2.2.2.2.1.2.1 = a1.2.2.2.2.2.2.2.2.2.2.2.1.2.1) && (decide (a0.2.2.2.2.2.2.2.2.2.2.2.1.2.2 = a1.2.2.2.2.2.2.2.2.2.2.2.1.2.2) && true)) && (decide (a0.2.2.2.2.2.2.2.2.2.2.2.2 = a1.2.2.2.2.2.2.2.2.2.2.2.2) && true))) (R d7) (aY d9 (qV [T.sl false (List.map aT.enc a0.2.2.2.2.2.2.1.1), T.sl false (List.map aT.enc a1.2.2.2.2.2.2.1.1)]) fun (y0:Bool)=>aD y0 (aD (!decide ((↑(AC a0).length:Int) = (↑(AC a1).length:Int))) (R d7) (bB (Int×PUnit) (fun X1 s2=>aD (decide (s2.1 < (↑(AC a0).length : Int))) (aO aT.li (AC a0) s2.1 fun (y3:List dG)=>aO aT.li (AC a1) s2.1 fun (y4:List dG)=>aY d9 (qV [T.sl false (EQ y3), T.sl false (EQ y4)]) fun (y5:Bool)=>aD (!y5) (R d7) (H1 X1 s2)) (R eI)) (0,()))) (R d7))))))))))))
abbrev oX:Sh:=[(true,aI),(true,aI)]
noncomputable def fI:List T→Option T:=gS oX iI
theorem wB {a0 a1}:fI [aJ true aI a0,aJ true aI a1]=iI (a0,a1):=bW (s:=oX) rfl (a0,a1) rfl
theorem CH:vS Tryz.prog 44 fI iI (dS oX) oD:=iS (a1:=(true,aI)) (a2:=(true,aI)) (sp:=iI) (F:=oD) (Hs:=DG) (f:=44) (k:=8) yE a8 bA (aV rfl) ⟨_,_,Tryz.func44,rfl⟩ rfl fun _ _ _=>by kernel_rfl
theorem BR:aW Tryz.prog 44 fI:=CH fun a b r h hb=>by
 cases h
 have no:¬ a=b→T.v (.bool false)=Sh.enc kR (fE a b):=fun h=>by rw[oJ h];rfl
 have yes:a=b→T.v (.bool true)=Sh.enc kR (fE a b):=fun h=>by rw[bM.2 h];rfl
 have hl:a.2.2.2.2.2.2.1.2.length≤2 ^ 47:=hb.1.2.2.2.2.2.2.1.2.1
 unfold oD AC EQ H1 eI d9 d7
 have u:=@HX
 simp only[u,qC,jJ]
 refine dT (fun h=>no fun e=>by simp[e] at h) fun h1=>?_
 refine dT (fun h=>no fun e=>by simp[e] at h) fun h2=>?_
 refine dT (fun h=>no fun e=>by simp[e] at h) fun h3=>?_
 refine dT (fun h=>no fun e=>by simp[e] at h) fun h4=>?_
 refine dT (fun h=>no fun e=>by simp[e] at h) fun h5=>?_
 refine dT (fun h=>no fun e=>by simp[e] at h) fun h6=>?_
 refine dT (fun h=>no fun e=>by simp[e] at h) fun h7=>?_
 refine dT (fun h=>no fun e=>by simp[e] at h) fun h8=>?_
 refine dT (fun h=>no fun e=>by simp[e] at h) fun h9=>?_
 refine dT (fun h=>no fun e=>by simp[e] at h) fun h10=>?_
 refine dT (fun h=>no fun e=>by simp[e] at h) fun h11=>?_
 refine Q5 (fun h12=>?_) (fun h=>no fun e=>by simp[e] at h)
 refine NM (r:=.li aT) hl _ (fun x y=>bM) (fun h13=>yes ?_) (fun h=>no fun e=>h (by rw[e]))
 simp only[Bool.and_true,Bool.and_eq_true,decide_eq_true_eq,bM] at h1 h2 h3 h4 h5 h6 h7 h8 h9 h10 h11 h12
 simp only[Prod.ext_iff]
 exact ⟨h1,h2,h3,h4,h5,h6,⟨h12,h13⟩,h7,h8,h9,h10,h11⟩
end Go.Pv
namespace Go.Pv
open Go Go.Proofs
noncomputable def PZ:Env:=Env.of []
def P7:FuncId→Hint:=fun _=>bL
theorem JQ:aG Tryz.prog PZ:=.nil _
def JY(a0:bX)(R:T→Prop):Prop:=R (T.v (.string a0.1))
abbrev E3:Sh:=[(true,aM)]
def sM (x:bX):Option T:=some (Sh.enc [(false,.str)] x.1)
noncomputable def j3:List T→Option T:=gS E3 sM
theorem HZ {a0}:j3 [aJ true aM a0]=sM (a0):=bW (s:=E3) rfl (a0) rfl
theorem OT:TY Tryz.prog 40 j3 sM (dS E3) JY:=OP (a1:=(true,aM)) (sp:=sM) (F:=JY) (Hs:=P7) (f:=40) (k:=8) JQ a8 bA (aV rfl) ⟨_,_,Tryz.func40,rfl⟩ rfl fun _ _=>by kernel_rfl
theorem N2:aW Tryz.prog 40 j3:=OT fun x r h hb=>by
 cases h;rfl
noncomputable def P0:Env:=Env.of []
def P8:FuncId→Hint:=fun _=>bL
theorem JR:aG Tryz.prog P0:=.nil _
def JZ(a0:bK)(R:T→Prop):Prop:=R (T.v (.string a0.1))
abbrev E4:Sh:=[(true,aI)]
def sN (x:bK):Option T:=some (Sh.enc [(false,.str)] x.1)
noncomputable def j4:List T→Option T:=gS E4 sN
theorem H0 {a0}:j4 [aJ true aI a0]=sN (a0):=bW (s:=E4) rfl (a0) rfl
theorem OU:TY Tryz.prog 43 j4 sN (dS E4) JZ:=OP (a1:=(true,aI)) (sp:=sN) (F:=JZ) (Hs:=P8) (f:=43) (k:=8) JR a8 bA (aV rfl) ⟨_,_,Tryz.func43,rfl⟩ rfl fun _ _=>by kernel_rfl
theorem N3:aW Tryz.prog 43 j4:=OU fun x r h hb=>by
 cases h;rfl
noncomputable def P1:Env:=Env.of []
def P9:FuncId→Hint:=fun _=>bL
theorem JS:aG Tryz.prog P1:=.nil _
def J0(a0:bY)(R:T→Prop):Prop:=R (T.v (.string a0.1))
abbrev E5:Sh:=[(true,aN)]
def sO (x:bY):Option T:=some (Sh.enc [(false,.str)] x.1)
noncomputable def j5:List T→Option T:=gS E5 sO
theorem H3 {a0}:j5 [aJ true aN a0]=sO (a0):=bW (s:=E5) rfl (a0) rfl
theorem OV:TY Tryz.prog 46 j5 sO (dS E5) J0:=OP (a1:=(true,aN)) (sp:=sO) (F:=J0) (Hs:=P9) (f:=46) (k:=8) JS a8 bA (aV rfl) ⟨_,_,Tryz.func46,rfl⟩ rfl fun _ _=>by kernel_rfl
theorem N4:aW Tryz.prog 46 j5:=OV fun x r h hb=>by
 cases h;rfl
noncomputable def PY:Env:=Env.of []
def P6:FuncId→Hint:=fun _=>bL
theorem JP:aG Tryz.prog PY:=.nil _
def JX(a0:aQ)(R:T→Prop):Prop:=R (T.v (.string a0.1))
abbrev E2:Sh:=[(true,aA)]
def sL (x:aQ):Option T:=some (Sh.enc [(false,.str)] x.1)
noncomputable def j2:List T→Option T:=gS E2 sL
theorem HY {a0}:j2 [aJ true aA a0]=sL (a0):=bW (s:=E2) rfl (a0) rfl
theorem OS:TY Tryz.prog 49 j2 sL (dS E2) JX:=OP (a1:=(true,aA)) (sp:=sL) (F:=JX) (Hs:=P6) (f:=49) (k:=8) JP a8 bA (aV rfl) ⟨_,_,Tryz.func49,rfl⟩ rfl fun _ _=>by kernel_rfl
theorem N1:aW Tryz.prog 49 j2:=OS fun x r h hb=>by
 cases h;rfl
noncomputable def mS (x:List ByteArray×List ByteArray):Option T:=some (Sh.enc kR (fE x.1 x.2))
noncomputable def M4:Env:=Env.of []
def M7:FuncId→Hint:=iE 51 [(4,.inv [.val 13 false (.int .i64)])] (fun _=>bL)
theorem GV:aG Tryz.prog M4:=.nil _
def yI(a0:List ByteArray)(a1:List ByteArray)(R:T→Prop):Prop:=aD (!decide ((↑(f7 a0).length:Int)=(↑(f7 a1).length:Int))) (R d7) (g9 a0 a1 R)
abbrev AD:Sh:=[(false,Sy.str.li),(false,Sy.str.li)]
noncomputable def nC:List T→Option T:=gS AD mS
theorem EE {a0 a1}:nC [T.sl false (List.map Sy.str.enc a0),T.sl false (List.map Sy.str.enc a1)]=mS (a0,a1):=bW (s:=AD) rfl (a0,a1) rfl
theorem MB:vS Tryz.prog 51 nC mS (dS AD) yI:=iS (a1:=(false,Sy.str.li)) (a2:=(false,Sy.str.li)) (sp:=mS) (F:=yI) (Hs:=M7) (f:=51) (k:=8) GV a8 bA (aV rfl) ⟨_,_,Tryz.func51,rfl⟩ rfl fun _ _ _=>by kernel_rfl
theorem K8:aW Tryz.prog 51 nC:=MB fun a b r h hb=>by
 cases h
 unfold yI g9 H1 f7 eI d7
 exact jM (r:=.str) (R:=fun y=>y=Sh.enc kR (fE a b)) hb.1.1 _ (fun x y=>decide_eq_true_iff) rfl
noncomputable def P3:Env:=Env.of []
def QB:FuncId→Hint:=fun _=>bL
theorem JU:aG Tryz.prog P3:=.nil _
def DD(a0:bX)(a1:bX)(R:T→Prop):Prop:=R (T.v (.bool (decide (a0.1=a1.1)&&(decide (a0.2.1=a1.2.1)&&(decide (a0.2.2=a1.2.2)&&true)))))
abbrev E7:Sh:=[(true,aM),(true,aM)]
noncomputable def sQ (x:bX×bX):Option T:=some (Sh.enc kR (fE x.1 x.2))
noncomputable def qX:List T→Option T:=gS E7 sQ
theorem H5 {a0 a1}:qX [aJ true aM a0,aJ true aM a1]=sQ (a0,a1):=bW (s:=E7) rfl (a0,a1) rfl
theorem OX:vS Tryz.prog 41 qX sQ (dS E7) DD:=iS (a1:=(true,aM)) (a2:=(true,aM)) (sp:=sQ) (F:=DD) (Hs:=QB) (f:=41) (k:=8) JU a8 bA (aV rfl) ⟨_,_,Tryz.func41,rfl⟩ rfl fun _ _ _=>by kernel_rfl
theorem N6:aW Tryz.prog 41 qX:=OX fun a b r h hb=>by
 cases h
 unfold DD
 show T.v (.bool _)=T.v (.bool (fE a b))
 congr 2
 rw[Bool.eq_iff_iff,bM]
 simp only[Bool.and_true,Bool.and_eq_true,decide_eq_true_eq,Prod.ext_iff,and_assoc]
noncomputable def P4:Env:=Env.of []
def QC:FuncId→Hint:=fun _=>bL
theorem JV:aG Tryz.prog P4:=.nil _
def DE(a0:bY)(a1:bY)(R:T→Prop):Prop:=R (T.v (.bool (decide (a0.1=a1.1) && (decide (a0.2.1=a1.2.1) && (decide (a0.2.2.1=a1.2.2.1) && (decide (a0.2.2.2.1=a1.2.2.2.1) && (decide (a0.2.2.2.2.1=a1.2.2.2.2.1) && (decide (a0.2.2.2.2.2=a1.2.2.2.2.2)&&true))))))))
abbrev E8:Sh:=[(true,aN),(true,aN)]
noncomputable def sR (x:bY×bY):Option T:=some (Sh.enc kR (fE x.1 x.2))
noncomputable def qY:List T→Option T:=gS E8 sR
theorem H6 {a0 a1}:qY [aJ true aN a0,aJ true aN a1]=sR (a0,a1):=bW (s:=E8) rfl (a0,a1) rfl
theorem OY:vS Tryz.prog 47 qY sR (dS E8) DE:=iS (a1:=(true,aN)) (a2:=(true,aN)) (sp:=sR) (F:=DE) (Hs:=QC) (f:=47) (k:=8) JV a8 bA (aV rfl) ⟨_,_,Tryz.func47,rfl⟩ rfl fun _ _ _=>by kernel_rfl
theorem N7:aW Tryz.prog 47 qY:=OY fun a b r h hb=>by
 cases h
 unfold DE
 show T.v (.bool _)=T.v (.bool (fE a b))
 congr 2
 rw[Bool.eq_iff_iff,bM]
 simp only[Bool.and_true,Bool.and_eq_true,decide_eq_true_eq,Prod.ext_iff,and_assoc]
noncomputable def P2:Env:=Env.of [(51,.pure nC)]
def QA:FuncId→Hint:=fun _=>bL
theorem JT:aG Tryz.prog P2:=.cons K8 (.nil _)
def DC(a0:aQ)(a1:aQ)(R:T→Prop):Prop:=aD (decide (a0.1=a1.1)) (aD (decide (a0.2.1=a1.2.1)) (aD (decide (a0.2.2.2.1=a1.2.2.2.1)) (aY d9 (nC [T.sl false (GE a0), T.sl false (GE a1)]) fun (y0:Bool)=>aD y0 (aY d9 (nC [T.sl false (FS a0), T.sl false (FS a1)]) fun (y1:Bool)=>R (T.v (.bool y1))) (R d7)) (R d7)) (R d7)) (R d7)
abbrev E6:Sh:=[(true,aA),(true,aA)]
noncomputable def sP (x:aQ×aQ):Option T:=some (Sh.enc kR (fE x.1 x.2))
noncomputable def qW:List T→Option T:=gS E6 sP
theorem H4 {a0 a1}:qW [aJ true aA a0,aJ true aA a1]=sP (a0,a1):=bW (s:=E6) rfl (a0,a1) rfl
theorem OW:vS Tryz.prog 50 qW sP (dS E6) DC:=iS (a1:=(true,aA)) (a2:=(true,aA)) (sp:=sP) (F:=DC) (Hs:=QA) (f:=50) (k:=8) JT a8 bA (aV rfl) ⟨_,_,Tryz.func50,rfl⟩ rfl fun _ _ _=>by kernel_rfl
theorem N5:aW Tryz.prog 50 qW:=OW fun a b r h hb=>by
 cases h
 unfold DC GE FS d9 d7
 have u:=@EE
 simp only[u,mS,jJ]
 simp only[KX,uQ,q9]
 congr 2
 rw[Bool.eq_iff_iff,bM]
 simp only[Bool.and_true,Bool.and_eq_true,decide_eq_true_eq,bM,Prod.ext_iff]
 exact ⟨fun ⟨h1,h2,h3,h4,h5⟩=>⟨h1,h2,h4,h3,h5⟩,fun ⟨h1,h2,h4,h3,h5⟩=>⟨h1,h2,h3,h4,h5⟩⟩
end Go.Pv
namespace Go.Pv
open Go Go.Proofs Go.RowKit Go.Sort Go.Shelf
def toL (b:ByteArray):List UInt8:=b.data.toList
def RH (a:List UInt8):ByteArray:=⟨a.toArray⟩
theorem pZ (b:ByteArray):RH (toL b)=b:=by cases b;simp[RH,toL]
theorem toL_ofL (a:List UInt8):toL (RH a)=a:=by simp[RH,toL]
def qE (q:List (List UInt8)→List (List UInt8)) (l:List ByteArray):List ByteArray:=(q (l.map toL)).map RH
theorem xS (q:List (List UInt8)→List (List UInt8)) (l:List ByteArray):(q (l.map toL)).map (fun a=>[T.v (encStr a)])=List.map Sy.str.enc (qE q l):=by
 unfold qE
 rw[List.map_map];rfl
def gC (l:List (List UInt8)):List (List UInt8):=l.mergeSort fun x y=>decide (x≤y)
def lE (rows:List (List T)):Option (List (List T)):=(rI rows).map fun l=>(gC l).map fun a=>[.v (encStr a)]
theorem B0 (l:List ByteArray) (K:List (List T)→Prop):oR (List (List T)) (lE (List.map Sy.str.enc l)) K=K (List.map Sy.str.enc (qE gC l)):=by
 have e:lE (List.map Sy.str.enc l)=some (List.map Sy.str.enc (qE gC l)):=by
  unfold lE;rw[qL];exact congrArg some (xS ..)
 rw[e]
 exact propext ⟨fun ⟨y,h1,h2⟩=>by cases h1;exact h2,fun h=>⟨_,rfl,h⟩⟩
theorem HT:cW Tryz.prog 52 (pN 1 lE) :=
 IZ (f:=52) encStr (fun _=>rfl) rI oI gC (fun l=>by unfold gC;simp) ⟨_,Tryz.func52,rfl,rfl⟩
  (fun aL cap zs w hH hb hs=>Any.slices_Sort_string Tryz.F9 aL 0 cap zs w hH hb hs) (fun p cap w=>Any.slices_Sort_string_none Tryz.F9 p cap w)
theorem DY (l:List (List UInt8)):(Lib.compact l).length≤l.length:=by
 unfold Lib.compact
 unfold Lib.compactUpTo
 rw[List.length_map]
 exact Nat.le_trans (List.length_filter_le _ _) (by simp)
def UK:List T→Bool
 | []=>true
 | _=>false
def qU:List (List T)→List T→Option (List (List T)):=zK Lib.compact UK true
theorem HW (l:List ByteArray) (K:List ByteArray→Prop):oM .str (qU (List.map Sy.str.enc l) []) K=K (qE Lib.compact l):=by
 have e:qU (List.map Sy.str.enc l) []=some (List.map Sy.str.enc (qE Lib.compact l)):=by
  unfold qU zK;simp only[UK,Bool.true_or,Bool.and_self];rw[qL];exact congrArg some (xS ..)
 rw[e];exact propext ⟨fun ⟨y,h1,h2⟩=>by rw[map_inj (Sy.fP .str) (Option.some.inj h1)];exact h2,fun h=>⟨_,rfl,h⟩⟩
theorem NZ:cW Tryz.prog 53 (rN 1 qU) :=
 EG (f:=53) Lib.compact DY rfl UK true #[] (fun ts w cx ρ σ vs h _ hl=>by
   cases ts with
   | nil=>exact List.length_eq_zero_iff.1 hl
   | cons=>cases h) ⟨_,Tryz.func53,rfl,rfl⟩
  (fun aL cap zs w hH hb hs hc=>Any.slices_Compact_string Tryz.GA aL 0 cap zs w hH (by omega) hc) (fun _ a cap w=>Any.slices_Compact_string_empty Tryz.GA a cap w)
def QO (x:List UInt8):Bool:=x.isEmpty
def SZ (l:List (List UInt8)):List (List UInt8):=l.filter fun x=>!QO x
end Go.Pv
namespace Go.Pv
open Go Go.Proofs
def TI (l:List ByteArray):List ByteArray:=qE SZ (qE Lib.compact (qE gC l))
def RC (x:KC):List ByteArray :=
 if x.1=1 then [x.2.2.2.1.1,x.2.2.2.1.2.2]
 else if x.1=2∨x.1=4∨x.1=8∨x.1=10 then [x.2.1]
 else if x.1=3∨x.1=5 then [x.2.2.2.2.1.1,x.2.2.2.2.1.2.2.2.1]
 else if x.1=6 then [x.2.1,x.2.2.1]
 else if x.1=7 then [x.2.2.2.2.2.1.1,x.2.2.2.2.2.1.2.1,x.2.2.2.2.2.1.2.2.1]
 else if x.1=9 then ([x.2.2.2.2.2.2.1.1,x.2.2.2.2.2.2.1.2.1]++x.2.2.2.2.2.2.1.2.2.1)++x.2.2.2.2.2.2.1.2.2.2.2
 else if x.1=11∨x.1=12 then [x.2.2.2.2.2.2.2.2.1,x.2.2.2.2.2.2.2.2.2]
 else []
def UN (x:KC):Bool:=decide (x.2.2.2.2.2.2.1.2.2.1.length≤1000000)&&decide (x.2.2.2.2.2.2.1.2.2.2.2.length≤1000000)
def SD (x:KC):Option T:=match UN x with
 | true=>some (T.sl false (List.map Sy.str.enc (TI (RC x))))
 | false=>none
theorem GM {c:Bool} {a r:T} (h:(match c with|true=>some a|false=>none)=some r):c=true∧a=r:=by
 cases c with
 | true=>exact ⟨rfl,Option.some.inj h⟩
 | false=>cases h
theorem DM {l:List ByteArray}:dL 1 (List.map Sy.str.enc l)=true:=KI .str l
end Go.Pv
namespace Go.Pv
open Go Go.Proofs Go.Lib
theorem sK (a b:ByteArray):dK a b=true↔toL a<toL b:=by
 unfold dK toL;rw[bytesLess_eq,decide_eq_true_iff]
theorem A5:∀ {l m:List (List UInt8)},l.Pairwise (· < ·)→m.Pairwise (· < ·)→(∀ a,a∈l↔a∈m)→l=m
 | [],[],_,_,_=>rfl
 | [],b::m,_,_,h=>absurd ((h b).2 List.mem_cons_self) (by simp)
 | a::l,[],_,_,h=>absurd ((h a).1 List.mem_cons_self) (by simp)
 | a::l,b::m,h1,h2,h=>by
  rw[List.pairwise_cons] at h1 h2
  have e:a=b:=by
   rcases List.mem_cons.1 ((h a).1 List.mem_cons_self) with e|e
   ·exact e
   ·rcases List.mem_cons.1 ((h b).2 List.mem_cons_self) with e'|e'
    ·exact e'.symm
    ·exact absurd (List.lt_trans (h1.1 b e') (h2.1 a e)) (List.lt_irrefl _)
  subst e
  refine congrArg (a :: ·) (A5 h1.2 h2.2 fun x=>⟨fun hx=>?_,fun hx=>?_⟩)
  ·rcases List.mem_cons.1 ((h x).1 (List.mem_cons_of_mem _ hx)) with e|e
   ·subst e;exact absurd (h1.1 _ hx) (List.lt_irrefl _)
   ·exact e
  ·rcases List.mem_cons.1 ((h x).2 (List.mem_cons_of_mem _ hx)) with e|e
   ·subst e;exact absurd (h2.1 _ hx) (List.lt_irrefl _)
   ·exact e
theorem I9 (l:List (List UInt8)):(gC l).Pairwise (· ≤ ·):=by
 unfold gC
 have h:=List.pairwise_mergeSort (le:=fun x y:List UInt8=>decide (x≤y)) (fun a b c h1 h2=>decide_eq_true (List.le_trans (of_decide_eq_true h1) (of_decide_eq_true h2))) (fun a b=>by
  rw[Bool.or_eq_true,decide_eq_true_eq,decide_eq_true_eq]
  exact List.le_total a b) l
 exact h.imp fun h=>of_decide_eq_true h
theorem FC {l:List (List UInt8)} {a:List UInt8}:a∈gC l↔a∈l:=by unfold gC;exact List.mem_mergeSort
theorem DZ {l:List (List UInt8)} (h:l.Pairwise (· ≤ ·)):(Lib.compact l).Pairwise (· < ·):=by
 unfold Lib.compact compactUpTo
 rw[List.pairwise_map,List.pairwise_filter]
 refine List.Pairwise.imp_of_mem ?_ List.pairwise_lt_range
 intro i j hi hj hij ki kj
 rw[List.mem_range] at hi hj
 have get:∀ k (hk:k<l.length),l.toArray[k]! = l[k]:=fun k hk=>by simp[hk]
 have le:∀ p q (hp:p<l.length) (hq:q<l.length),p≤q→l[p]≤l[q]:=fun p q hp hq hpq=>by
  by_cases e:p=q
  ·subst e;exact List.le_refl _
  ·exact List.pairwise_iff_getElem.1 h p q hp hq (by omega)
 unfold keeps at kj
 rw[decide_eq_true_eq] at kj
 have hne:l.toArray[j]! ≠ l.toArray[j-1]! := kj.resolve_left (by omega)
 rw[get j hj,get (j-1) (by omega)] at hne
 rw[get i hi,get j hj]
 have a1:=le i (j-1) hi (by omega) (by omega)
 have a2:=le (j-1) j (by omega) hj (by omega)
 have a3:l[j-1]<l[j]:=Decidable.byContradiction fun hn=>hne (List.le_antisymm (List.not_lt.1 hn) a2)
 exact Decidable.byContradiction fun hn=>absurd (List.le_trans (List.not_lt.1 hn) a1) (List.not_le.2 a3)
theorem BC {l:List (List UInt8)} {a:List UInt8}:a∈Lib.compact l↔a∈l:=by
 have get:∀ k (hk:k<l.length),l.toArray[k]! = l[k]:=fun k hk=>by simp[hk]
 have all:∀ n k,k≤n→(hk:k<l.length)→l[k]∈Lib.compact l:=by
  intro n
  induction n with
  | zero =>
   intro k hk hl
   have:k=0:=by omega
   subst this
   unfold Lib.compact compactUpTo
   exact List.mem_map.2 ⟨0,List.mem_filter.2 ⟨List.mem_range.2 hl,keeps_lt_one _ 0 (by omega)⟩,get 0 hl⟩
  | succ n ih =>
   intro k hk hl
   by_cases hkk:keeps l.toArray k=true
   ·unfold Lib.compact compactUpTo
    exact List.mem_map.2 ⟨k,List.mem_filter.2 ⟨List.mem_range.2 hl,hkk⟩,get k hl⟩
   ·unfold keeps at hkk
    rw[decide_eq_true_eq,not_or] at hkk
    have e:l.toArray[k]! = l.toArray[k-1]! := Decidable.byContradiction hkk.2
    rw[get k hl,get (k-1) (by omega)] at e
    rw[e]
    exact ih (k-1) (by omega) (by omega)
 constructor
 ·intro h
  unfold Lib.compact compactUpTo at h
  obtain ⟨k,h1,rfl⟩:=List.mem_map.1 h
  have hk:=List.mem_range.1 (List.mem_filter.1 h1).1
  rw[get k hk]
  exact List.getElem_mem hk
 ·intro h
  obtain ⟨k,hk,rfl⟩:=List.mem_iff_getElem.1 h
  exact all k k (Nat.le_refl _) hk
end Go.Pv
namespace Go.Pv
open Go Go.Proofs
def xF (a b:ByteArray):Prop:=toL a<toL b
theorem B5:GY xF:=⟨fun a=>List.lt_irrefl _,fun h1 h2=>List.lt_trans h1 h2,fun {a b} h1 h2=>by rw[←pZ a,←pZ b,List.le_antisymm (List.not_lt.1 h2) (List.not_lt.1 h1)]⟩
def yS (l:List ByteArray):List ByteArray:=qE Lib.compact (qE gC l)
theorem toL_viaL (q:List (List UInt8)→List (List UInt8)) (l:List ByteArray):(qE q l).map toL=q (l.map toL):=by
 unfold qE
 rw[List.map_map]
 exact (List.map_congr_left fun a _=>toL_ofL a).trans (List.map_id _)
theorem o7 (l:List ByteArray):(yS l).Pairwise xF:=by
 have h:((yS l).map toL).Pairwise (· < ·):=by
  unfold yS;rw[toL_viaL,toL_viaL];exact DZ (I9 _)
 show (yS l).Pairwise fun a b=>toL a<toL b
 exact List.pairwise_map.1 h
theorem sI {l:List ByteArray} {s:ByteArray}:toL s∈l.map toL↔s∈l :=
 ⟨fun h=>by obtain ⟨b,hb,e⟩:=List.mem_map.1 h;rw[←pZ s,←e,pZ];exact hb,fun h=>List.mem_map.2 ⟨s,h,rfl⟩⟩
theorem iX {l:List ByteArray} {s:ByteArray}:s∈yS l↔s∈l:=by
 rw[←sI]
 unfold yS
 rw[toL_viaL,toL_viaL,BC,FC,sI]
theorem yR {l m:List ByteArray} (h1:l.Pairwise xF) (h2:m.Pairwise xF) (h:∀ s,s∈l↔s∈m):l=m:=by
 have e:l.map toL=m.map toL:=A5 (List.pairwise_map.2 h1) (List.pairwise_map.2 h2) fun a=>by
  constructor
  ·intro ha;obtain ⟨b,hb,rfl⟩:=List.mem_map.1 ha;exact sI.2 ((h b).1 hb)
  ·intro ha;obtain ⟨b,hb,rfl⟩:=List.mem_map.1 ha;exact sI.2 ((h b).2 hb)
 have:=congrArg (List.map RH) e
 rw[List.map_map,List.map_map] at this
 have u:∀ k:List ByteArray,List.map (RH∘toL) k=k:=fun k=>(List.map_congr_left fun a _=>pZ a).trans (List.map_id _)
 rwa[u,u] at this
noncomputable def iZ (a b:aR) (s:ByteArray):Bool:=FT fE (fL a s) (fL b s)||FT fE (partOf a s) (partOf b s)||FT fE (fN a s) (fN b s)||FT fE (fM a s) (fM b s)
def dO (d:aR):List ByteArray:=d.2.1.map (fun x=>x.1)++d.2.2.1.map (fun x=>x.1)++d.2.2.2.1.map (fun x=>x.1)++d.2.2.2.2.1.map (fun x=>x.1)
noncomputable def bD (a b:aR):List ByteArray:=yS ((dO a++dO b).filter (iZ a b))
theorem pC {α:Type} {same:α→α→Bool} {id:α→ByteArray} {a b:List α} {s:ByteArray} (h:FT same (a.find? fun x=>decide (id x=s)) (b.find? fun x=>decide (id x=s))=true):s∈a.map id∨s∈b.map id:=by
 have get:∀ {l:List α} {x:α},l.find? (fun x=>decide (id x=s))=some x→s∈l.map id:=fun {l x} h=>by
  have h1:=List.mem_of_find?_eq_some h
  have h2:=List.find?_some h
  exact List.mem_map.2 ⟨x,h1,of_decide_eq_true h2⟩
 cases ha:a.find? fun x=>decide (id x=s) with
 | some x=>exact .inl (get ha)
 | none =>
  cases hb:b.find? fun x=>decide (id x=s) with
  | some y=>exact .inr (get hb)
  | none=>rw[ha,hb] at h;cases h
theorem BI {a b:aR} {s:ByteArray} (h:iZ a b s=true):s∈dO a++dO b:=by
 unfold iZ at h
 rw[Bool.or_eq_true,Bool.or_eq_true,Bool.or_eq_true] at h
 unfold dO
 simp only[List.mem_append]
 rcases h with ((h|h)|h)|h
 ·rcases pC (id:=fun x:bX=>x.1) h with h|h<;>simp[h]
 ·rcases pC (id:=fun x:bK=>x.1) h with h|h<;>simp[h]
 ·rcases pC (id:=fun x:bY=>x.1) h with h|h<;>simp[h]
 ·rcases pC (id:=fun x:aQ=>x.1) h with h|h<;>simp[h]
theorem rF {a b:aR} {o:List ByteArray} (h:∀ s,s∈o↔iZ a b s=true):yS o=bD a b :=
 yR (o7 _) (o7 _) fun s=>by
  rw[bD,iX,iX,h,List.mem_filter]
  exact ⟨fun h=>⟨BI h,h⟩,fun h=>h.2⟩
theorem BB {a b:aR} {o:List ByteArray} (h1:o.Pairwise xF) (h2:∀ s,s∈o↔s∈dO a++dO b∧iZ a b s=true):o=bD a b :=
 yR h1 (o7 _) fun s=>by rw[bD,iX,h2,List.mem_filter]
theorem pG {α:Type} (x y:α):fE x y=fE y x:=by
 rw[Bool.eq_iff_iff,bM,bM];exact eq_comm
theorem HC (a b:aR) (s:ByteArray):iZ a b s=iZ b a s:=by
 unfold iZ
 rw[pB pG (fL a s),pB pG (partOf a s),pB pG (fN a s),pB pG (fM a s)]
theorem HD (a:aR) (s:ByteArray):iZ a a s=false:=by
 unfold iZ
 simp only[KU KY];rfl
theorem yX (a b:aR):bD a b=bD b a:=rF (o:=bD a b) (a:=b) (b:=a) (fun s=>by
 rw[bD,iX,List.mem_filter,HC b a]
 exact ⟨fun h=>h.2,fun h=>⟨BI h,h⟩⟩) ▸ (yR (o7 _) (o7 _) fun s=>by rw[iX])
theorem yY (a:aR):bD a a=[]:=by
 unfold bD
 rw[List.filter_eq_nil_iff.2 fun s _=>by rw[HD];simp]
 refine List.eq_nil_iff_forall_not_mem.2 fun s hs=>?_
 rw[iX] at hs;cases hs
end Go.Pv
namespace Go.Pv
open Go Go.Proofs
def pP:List (List T)→Option (List (List T)):=lE
theorem EF (l:List ByteArray) (K:List (List T)→Prop):oR (List (List T)) (pP (List.map Sy.str.enc l)) K=K (List.map Sy.str.enc (qE gC l)):=B0 l K
theorem K9:cW Tryz.prog 52 (pN 1 pP):=HT
noncomputable def CY:Env:=Env.of [(52,.perm 1 pP),(53,.grow 1 qU),(44,.pure fI),(40,.pure j3),(41,.pure qX),(43,.pure j4),(46,.pure j5),(47,.pure qY),(49,.pure j2),(50,.pure qW)]
def DF:FuncId→Hint:=fun f=>match f == 99 with|true=>⟨xD [(3,.alt [.val 13 false (.int .i64),.map 3 .str true aM] [.val 13 false (.int .i64),.map 2 .str true aM])],fun _ _=>none,fun _=>none⟩|false=>match f == 39 with|true=>⟨fun r=>match r == 4 with|true=>.inv [.own 11 1 .str,.eE 4 (some 2)]|false=>match r == 10 with|true=>.inv [.own 11 1 .str,.eE 6 (some 3)]|false=>.none,fun _ _=>none,fun r=>match r == 5 with|true=>some (.str,true,aM)|false=>match r == 11 with|true=>some (.str,true,aM)|false=>none⟩|false=>match f == 100 with|true=>⟨xD [(3,.alt [.val 13 false (.int .i64),.map 9 .str true aI] [.val 13 false (.int .i64),.map 8 .str true aI])],fun _ _=>none,fun _=>none⟩|false=>match f == 42 with|true=>⟨fun r=>match r == 4 with|true=>.inv [.own 11 1 .str,.eE 10 (some 8)]|false=>match r == 10 with|true=>.inv [.own 11 1 .str,.eE 12 (some 9)]|false=>.none,fun _ _=>none,fun r=>match r == 5 with|true=>some (.str,true,aI)|false=>match r == 11 with|true=>some (.str,true,aI)|false=>none⟩|false=>match f == 103 with|true=>⟨xD [(3,.alt [.val 13 false (.int .i64),.map 16 .str true aN] [.val 13 false (.int .i64),.map 15 .str true aN])],fun _ _=>none,fun _=>none⟩|false=>match f == 45 with|true=>⟨fun r=>match r == 4 with|true=>.inv [.own 11 1 .str,.eE 17 (some 15)]|false=>match r == 10 with|true=>.inv [.own 11 1 .str,.eE 19 (some 16)]|false=>.none,fun _ _=>none,fun r=>match r == 5 with|true=>some (.str,true,aN)|false=>match r == 11 with|true=>some (.str,true,aN)|false=>none⟩|false=>match f == 104 with|true=>⟨xD [(3,.alt [.val 13 false (.int .i64),.map 23 .str true aA] [.val 13 false (.int .i64),.map 22 .str true aA])],fun _ _=>none,fun _=>none⟩|false=>match f == 48 with|true=>⟨fun r=>match r == 4 with|true=>.inv [.own 11 1 .str,.eE 24 (some 22)]|false=>match r == 10 with|true=>.inv [.own 11 1 .str,.eE 26 (some 23)]|false=>.none,fun _ _=>none,fun r=>match r == 5 with|true=>some (.str,true,aA)|false=>match r == 11 with|true=>some (.str,true,aA)|false=>none⟩|false=>bL
theorem yD:aG Tryz.prog CY:=.cons K9 (.cons NZ (.cons BR (.cons N2 (.cons N6 (.cons N3 (.cons N4 (.cons N7 (.cons N1 (.cons N5 (.nil _))))))))))
def eS:Sh:=[(false,Sy.str)]
def f5:Sh:=[(false, Sy.str)]
def f9(a0:aR)(s83: Int × List (ByteArray × aQ) × PUnit)(X82: Int × List (ByteArray × aQ) × PUnit → Prop):Prop:=aO aA (m8 a0) s83.1 fun (y84 : aQ)=>aY f5 (j2 [aJ true aA y84]) fun (y85 : ByteArray)=>eC TypeDesc.string (Value.string y85) (List.map (aH Sy.str true aA) s83.2.1) true aA (aY f5 (j2 [aJ true aA y84]) fun (y89 : ByteArray)=>oR (Option (Nat × D)) (findD TypeDesc.string (Value.string y89) (List.map (aH Sy.str true aA) s83.2.1) 0) fun (y90 : Option (Nat × D))=>cM Sy.str true aA (e8 (List.map (aH Sy.str true aA) s83.2.1) y90 (Value.string y89) (D.p (aJ true aA y84))) fun (y91 : List (ByteArray × aQ))=>X82 (IntKind.i64.wrap (s83.1 + 1), y91, ())) fun (i86 : Nat) (y87 : aQ)=>cM Sy.str true aA (List.map (aH Sy.str true aA) s83.2.1) fun (y88 : List (ByteArray × aQ))=>X82 (IntKind.i64.wrap (s83.1 + 1), y88, ())
def gA(a0:aR)(s29:Int×List (ByteArray×bK)×PUnit)(X28:Int×List (ByteArray×bK)×PUnit→Prop):Prop:=aO aI (t6 a0) s29.1 fun (y30:bK)=>aY eS (j4 [aJ true aI y30]) fun (y31:ByteArray)=>eC TypeDesc.string (Value.string y31) (List.map (aH Sy.str true aI) s29.2.1) true aI (aY eS (j4 [aJ true aI y30]) fun (y35:ByteArray)=>oR (Option (Nat×D)) (findD TypeDesc.string (Value.string y35) (List.map (aH Sy.str true aI) s29.2.1) 0) fun (y36:Option (Nat×D))=>cM Sy.str true aI (e8 (List.map (aH Sy.str true aI) s29.2.1) y36 (Value.string y35) (D.p (aJ true aI y30))) fun (y37:List (ByteArray×bK))=>X28 (IntKind.i64.wrap (s29.1+1),y37,())) fun (i32:Nat) (y33:bK)=>cM Sy.str true aI (List.map (aH Sy.str true aI) s29.2.1) fun (y34:List (ByteArray×bK))=>X28 (IntKind.i64.wrap (s29.1+1),y34,())
def n4(s80: List ByteArray × (Nat × List Nat × Nat) × PUnit):List (List T):=List.map Sy.str.enc s80.1
def i6(s107: List ByteArray × (Nat × List Nat × Nat) × PUnit)(k111: ByteArray)(X106: List ByteArray × (Nat × List Nat × Nat) × PUnit → Prop)(i110: Nat)(s94: Int × List (ByteArray × aQ) × PUnit):Prop:=bT (decide (((n4 s107).length + 1) * 16 ≤ 140737488355328) && decide ((n4 s107).length + 1 ≤ 140737488355328)) (b7 Sy.str (List.map Sy.str.enc s107.1 ++ [[T.v (.string k111)]]) fun (y116 : List ByteArray)=>X106 (y116, (s107.2.1.1, s107.2.1.2.1 ++ [i110], (List.map (aH Sy.str true aA) s94.2.1).length), ()))
def m7(s23:List ByteArray×(Nat×List Nat×Nat)×PUnit):List (List T):=List.map Sy.str.enc s23.1
def t7(s26:List ByteArray×(Nat×List Nat×Nat)×PUnit)(k159:ByteArray)(X25:List ByteArray×(Nat×List Nat×Nat)×PUnit→Prop)(i158:Nat)(s13:Int×List (ByteArray×bX)×PUnit):Prop:=b7 Sy.str (List.map Sy.str.enc s26.1++[[T.v (.string k159)]]) fun (y164:List ByteArray)=>X25 (y164, (s26.2.1.1,s26.2.1.2.1++[i158], (List.map (aH Sy.str true aM) s13.2.1).length), ())
def v6(s77: List ByteArray × (Nat×List Nat×Nat) × PUnit)(k134:ByteArray)(X76: List ByteArray × (Nat × List Nat×Nat) × PUnit → Prop)(i133:Nat)(s56: Int × List (ByteArray×bY) × PUnit):Prop:=bT (decide (((List.map Sy.str.enc s77.1).length + 1) * 16 ≤ 140737488355328) && decide ((List.map Sy.str.enc s77.1).length + 1 ≤ 140737488355328)) (b7 Sy.str (List.map Sy.str.enc s77.1 ++ [[T.v (.string k134)]]) fun (y141 : List ByteArray)=>X76 (y141, (s77.2.1.1, s77.2.1.2.1 ++ [i133], (List.map (aH Sy.str true aN) s56.2.1).length), ()))
def oC(a0:aR)(a1:aR)(R:T→Prop):Prop:=cM Sy.str true aM [] fun (y0:List (ByteArray×bX))=>bB (Int×List (ByteArray×bX)×PUnit) (fun X1 s2=>aD (decide (s2.1<(↑(t2 a0).length:Int))) (aO aM (t2 a0) s2.1 fun (y3:bX)=>aY eS (j3 [aJ true aM y3]) fun (y4:ByteArray)=>eC TypeDesc.string (Value.string y4) (List.map (aH Sy.str true aM) s2.2.1) true aM (aY eS (j3 [aJ true aM y3]) fun (y8:ByteArray)=>oR (Option (Nat×D)) (findD TypeDesc.string (Value.string y8) (List.map (aH Sy.str true aM) s2.2.1) 0) fun (y9:Option (Nat×D))=>cM Sy.str true aM (e8 (List.map (aH Sy.str true aM) s2.2.1) y9 (Value.string y8) (D.p (aJ true aM y3))) fun (y10:List (ByteArray×bX))=>X1 (IntKind.i64.wrap (s2.1+1),y10,())) fun (i5:Nat) (y6:bX)=>cM Sy.str true aM (List.map (aH Sy.str true aM) s2.2.1) fun (y7:List (ByteArray×bX))=>X1 (IntKind.i64.wrap (s2.1+1),y7,())) (cM Sy.str true aM [] fun (y11:List (ByteArray×bX))=>bB (Int×List (ByteArray×bX)×PUnit) (fun X12 s13=>aD (decide (s13.1<(↑(t2 a1).length:Int))) (aO aM (t2 a1) s13.1 fun (y14:bX)=>aY eS (j3 [aJ true aM y14]) fun (y15:ByteArray)=>eC TypeDesc.string (Value.string y15) (List.map (aH Sy.str true aM) s13.2.1) true aM (aY eS (j3 [aJ true aM y14]) fun (y19:ByteArray)=>oR (Option (Nat×D)) (findD TypeDesc.string (Value.string y19) (List.map (aH Sy.str true aM) s13.2.1) 0) fun (y20:Option (Nat×D))=>cM Sy.str true aM (e8 (List.map (aH Sy.str true aM) s13.2.1) y20 (Value.string y19) (D.p (aJ true aM y14))) fun (y21:List (ByteArray×bX))=>X12 (IntKind.i64.wrap (s13.1+1),y21,())) fun (i16:Nat) (y17:bX)=>cM Sy.str true aM (List.map (aH Sy.str true aM) s13.2.1) fun (y18:List (ByteArray×bX))=>X12 (IntKind.i64.wrap (s13.1+1),y18,())) (bB (List ByteArray×(Nat×List Nat×Nat)×PUnit) (fun X22 s23=>bT (decide ((List.map (aH Sy.str true aM) s2.2.1).length≤s23.2.1.1) && decide (s23.2.1.1≤s23.2.1.2.2)) (kZ (List.map (aH Sy.str true aM) s2.2.1).length s23.2.1.2.1 (b7 Sy.str (m7 s23) fun (y24:List ByteArray)=>bB (List ByteArray×(Nat×List Nat×Nat)×PUnit) (fun X25 s26=>bT (decide ((List.map (aH Sy.str true aM) s13.2.1).length ≤ s26.2.1.1) && decide (s26.2.1.1≤s26.2.1.2.2)) (kZ (List.map (aH Sy.str true aM) s13.2.1).length s26.2.1.2.1 (cM Sy.str true aI [] fun (y27:List (ByteArray×bK))=>bB (Int×List (ByteArray×bK)×PUnit) (fun X28 s29=>aD (decide (s29.1<(↑(t6 a0).length:Int))) (gA a0 s29 X28) (cM Sy.str true aI [] fun (y38:List (ByteArray×bK))=>bB (Int×List (ByteArray×bK)×PUnit) (fun X39 s40=>aD (decide (s40.1 < (↑(t6 a1).length:Int))) (gA a1 s40 X39) (bB (List ByteArray×(Nat×List Nat×Nat)×PUnit) (fun X49 s50=>bT (decide ((List.map (aH Sy.str true aI) s29.2.1).length ≤ s50.2.1.1) && decide (s50.2.1.1≤s50.2.1.2.2)) (kZ (List.map (aH Sy.str true aI) s29.2.1).length s50.2.1.2.1 (b7 Sy.str (m7 s50) fun (y51:List ByteArray)=>bB (List ByteArray×(Nat×List Nat×Nat)×PUnit) (fun (X52 : List ByteArray×(Nat×List Nat×Nat)×PUnit → Prop) (s53 : List ByteArray×(Nat×List Nat×Nat)×PUnit)=>bT (decide ((List.map (aH Sy.str true aI) s40.2.1).length ≤ s53.2.1.1) && decide (s53.2.1.1≤s53.2.1.2.2)) (kZ (List.map (aH Sy.str true aI) s40.2.1).length s53.2.1.2.1 (bT (dL 1 (List.map Sy.str.enc s53.1) && decide (((m7 s26).length + (List.map Sy.str.enc s53.1).length) * 16 ≤ 140737488355328) && decide ((m7 s26).length + (List.map Sy.str.enc s53.1).length ≤ 140737488355328)) (cM Sy.str true aN [] fun (y54:List (ByteArray×bY))=>bB (Int×List (ByteArray×bY)×PUnit) (fun (X55 : Int × List (ByteArray×bY) × PUnit → Prop) (s56 : Int × List (ByteArray×bY) × PUnit)=>aD (decide (s56.1 < (↑(t1 a0).length : Int))) (aO aN (t1 a0) s56.1 fun (y57:bY)=>aY eS (j5 [aJ true aN y57]) fun (y58:ByteArray)=>eC TypeDesc.string (Value.string y58) (List.map (aH Sy.str true aN) s56.2.1) true aN (aY eS (j5 [aJ true aN y57]) fun (y62:ByteArray)=>oR (Option (Nat×D)) (findD TypeDesc.string (Value.string y62) (List.map (aH Sy.str true aN) s56.2.1) 0) fun (y63 : Option (Nat×D))=>cM Sy.str true aN (e8 (List.map (aH Sy.str true aN) s56.2.1) y63 (Value.string y62) (D.p (aJ true aN y57))) fun (y64 : List (ByteArray × bY))=>X55 (IntKind.i64.wrap (s56.1+1), y64,())) fun (i59:Nat) (y60:bY)=>cM Sy.str true aN (List.map (aH Sy.str true aN) s56.2.1) fun (y61 : List (ByteArray × bY))=>X55 (IntKind.i64.wrap (s56.1+1), y61,())) (cM Sy.str true aN [] fun (y65 : List (ByteArray×bY))=>bB (Int × List (ByteArray×bY) × PUnit) (fun (X66 : Int × List (ByteArray × bY) × PUnit → Prop) (s67 : Int × List (ByteArray × bY) × PUnit)=>aD (decide (s67.1 < (↑(t1 a1).length : Int))) (aO aN (t1 a1) s67.1 fun (y68:bY)=>aY eS (j5 [aJ true aN y68]) fun (y69:ByteArray)=>eC TypeDesc.string (Value.string y69) (List.map (aH Sy.str true aN) s67.2.1) true aN (aY eS (j5 [aJ true aN y68]) fun (y73:ByteArray)=>oR (Option (Nat×D)) (findD TypeDesc.string (Value.string y73) (List.map (aH Sy.str true aN) s67.2.1) 0) fun (y74 : Option (Nat × D))=>cM Sy.str true aN (e8 (List.map (aH Sy.str true aN) s67.2.1) y74 (Value.string y73) (D.p (aJ true aN y68))) fun (y75 : List (ByteArray × bY))=>X66 (IntKind.i64.wrap (s67.1+1), y75,())) fun (i70:Nat) (y71:bY)=>cM Sy.str true aN (List.map (aH Sy.str true aN) s67.2.1) fun (y72 : List (ByteArray × bY))=>X66 (IntKind.i64.wrap (s67.1+1), y72,())) (bB (List ByteArray × (Nat×List Nat×Nat) × PUnit) (fun (X76 : List ByteArray × (Nat × List Nat×Nat) × PUnit → Prop) (s77 : List ByteArray × (Nat×List Nat×Nat) × PUnit)=>bT (decide ((List.map (aH Sy.str true aN) s56.2.1).length ≤ s77.2.1.1) && decide (s77.2.1.1 ≤ s77.2.1.2.2)) (kZ (List.map (aH Sy.str true aN) s56.2.1).length s77.2.1.2.1 (b7 Sy.str (List.map Sy.str.enc s77.1) fun (y78 : List ByteArray)=>bB (List ByteArray × (Nat × List Nat × Nat) × PUnit) (fun (X79 : List ByteArray × (Nat × List Nat × Nat) × PUnit → Prop) (s80 : List ByteArray × (Nat × List Nat × Nat) × PUnit)=>bT (decide ((List.map (aH Sy.str true aN) s67.2.1).length ≤ s80.2.1.1) && decide (s80.2.1.1 ≤ s80.2.1.2.2)) (kZ (List.map (aH Sy.str true aN) s67.2.1).length s80.2.1.2.1 (bT (dL 1 (n4 s80) && decide (((List.map Sy.str.enc s26.1 ++ List.map Sy.str.enc s53.1).length + (n4 s80).length) * 16 ≤ 140737488355328) && decide ((List.map Sy.str.enc s26.1 ++ List.map Sy.str.enc s53.1).length + (n4 s80).length ≤ 140737488355328)) (cM Sy.str true aA [] fun (y81 : List (ByteArray × aQ))=>bB (Int × List (ByteArray × aQ) × PUnit) (fun (X82 : Int × List (ByteArray × aQ) × PUnit → Prop) (s83 : Int × List (ByteArray × aQ) × PUnit)=>aD (decide (s83.1 < (↑(m8 a0).length : Int))) (f9 a0 s83 X82) (cM Sy.str true aA [] fun (y92 : List (ByteArray × aQ))=>bB (Int × List (ByteArray × aQ) × PUnit) (fun (X93 : Int × List (ByteArray × aQ) × PUnit → Prop) (s94 : Int × List (ByteArray × aQ) × PUnit)=>aD (decide (s94.1 < (↑(m8 a1).length : Int))) (f9 a1 s94 X93) (bB (List ByteArray × (Nat × List Nat × Nat) × PUnit) (fun (X103 : List ByteArray × (Nat × List Nat × Nat) × PUnit → Prop) (s104 : List ByteArray × (Nat × List Nat × Nat) × PUnit)=>bT (decide ((List.map (aH Sy.str true aA) s83.2.1).length ≤ s104.2.1.1) && decide (s104.2.1.1 ≤ s104.2.1.2.2)) (kZ (List.map (aH Sy.str true aA) s83.2.1).length s104.2.1.2.1 (b7 Sy.str (n4 s104) fun (y105 : List ByteArray)=>bB (List ByteArray × (Nat × List Nat × Nat) × PUnit) (fun (X106 : List ByteArray × (Nat × List Nat × Nat) × PUnit → Prop) (s107 : List ByteArray × (Nat × List Nat × Nat) × PUnit)=>bT (decide ((List.map (aH Sy.str true aA) s94.2.1).length ≤ s107.2.1.1) && decide (s107.2.1.1 ≤ s107.2.1.2.2)) (kZ (List.map (aH Sy.str true aA) s94.2.1).length s107.2.1.2.1 (bT (dL 1 (n4 s107) && decide (((List.map Sy.str.enc s26.1 ++ List.map Sy.str.enc s53.1 ++ List.map Sy.str.enc s80.1).length + (n4 s107).length) * 16 ≤ 140737488355328) && decide ((List.map Sy.str.enc s26.1 ++ List.map Sy.str.enc s53.1 ++ List.map Sy.str.enc s80.1).length + (n4 s107).length ≤ 140737488355328)) (oR (List (List T)) (pP (List.map Sy.str.enc s26.1 ++ List.map Sy.str.enc s53.1 ++ List.map Sy.str.enc s80.1 ++ List.map Sy.str.enc s107.1)) fun (y108 : List (List T))=>oM Sy.str (qU y108 []) fun (y109 : List ByteArray)=>R (T.sl false (List.map Sy.str.enc y109)))) fun (i110 : Nat)=>bT (decide ((List.map (aH Sy.str true aA) s94.2.1).length = (List.map (aH Sy.str true aA) s94.2.1).length)) (r7 Sy.str true aA (List.map (aH Sy.str true aA) s94.2.1) (s107.2.1.2.1 ++ [i110]) fun (k111 : ByteArray) (y112 : aQ)=>eC TypeDesc.string (Value.string k111) (List.map (aH Sy.str true aA) s83.2.1) true aA (i6 s107 k111 X106 i110 s94) fun (i113 : Nat) (y114 : aQ)=>b7 Sy.str (n4 s107) fun (y115 : List ByteArray)=>X106 (y115, (s107.2.1.1, s107.2.1.2.1 ++ [i110], (List.map (aH Sy.str true aA) s94.2.1).length), ())))) (y105, ((List.map (aH Sy.str true aA) s94.2.1).length, [], (List.map (aH Sy.str true aA) s94.2.1).length), ())) fun (i117 : Nat)=>bT (decide ((List.map (aH Sy.str true aA) s83.2.1).length = (List.map (aH Sy.str true aA) s83.2.1).length)) (r7 Sy.str true aA (List.map (aH Sy.str true aA) s83.2.1) (s104.2.1.2.1 ++ [i117]) fun (k118 : ByteArray) (y119 : aQ)=>eC TypeDesc.string (Value.string k118) (List.map (aH Sy.str true aA) s94.2.1) true aA (i6 s104 k118 X103 i117 s83) fun (i120 : Nat) (y121 : aQ)=>aY [(false, Sy.bool)] (qW [aJ true aA y119, aJ true aA y121]) fun (y122 : Bool)=>aD (!y122) (i6 s104 k118 X103 i117 s83) (b7 Sy.str (n4 s104) fun (y124 : List ByteArray)=>X103 (y124, (s104.2.1.1, s104.2.1.2.1 ++ [i117], (List.map (aH Sy.str true aA) s83.2.1).length), ()))))) ([], ((List.map (aH Sy.str true aA) s83.2.1).length, [], (List.map (aH Sy.str true aA) s83.2.1).length), ()))) (0, y92, ()))) (0,y81, ()))) fun (i126 : Nat)=>bT (decide ((List.map (aH Sy.str true aN) s67.2.1).length = (List.map (aH Sy.str true aN) s67.2.1).length)) (r7 Sy.str true aN (List.map (aH Sy.str true aN) s67.2.1) (s80.2.1.2.1 ++ [i126]) fun (k127 : ByteArray) (y128 : bY)=>eC TypeDesc.string (Value.string k127) (List.map (aH Sy.str true aN) s56.2.1) true aN (bT (decide (((n4 s80).length + 1) * 16 ≤ 140737488355328) && decide ((n4 s80).length + 1 ≤ 140737488355328)) (b7 Sy.str (List.map Sy.str.enc s80.1 ++ [[T.v (.string k127)]]) fun (y132 : List ByteArray)=>X79 (y132, (s80.2.1.1, s80.2.1.2.1 ++ [i126], (List.map (aH Sy.str true aN) s67.2.1).length), ()))) fun (i129 : Nat) (y130 : bY)=>b7 Sy.str (n4 s80) fun (y131 : List ByteArray)=>X79 (y131, (s80.2.1.1, s80.2.1.2.1 ++ [i126], (List.map (aH Sy.str true aN) s67.2.1).length), ())))) (y78, ((List.map (aH Sy.str true aN) s67.2.1).length, [], (List.map (aH Sy.str true aN) s67.2.1).length), ())) fun (i133:Nat)=>bT (decide ((List.map (aH Sy.str true aN) s56.2.1).length = (List.map (aH Sy.str true aN) s56.2.1).length)) (r7 Sy.str true aN (List.map (aH Sy.str true aN) s56.2.1) (s77.2.1.2.1 ++ [i133]) fun (k134:ByteArray) (y135 : bY)=>eC TypeDesc.string (Value.string k134) (List.map (aH Sy.str true aN) s67.2.1) true aN (v6 s77 k134 X76 i133 s56) fun (i136:Nat) (y137 : bY)=>aY [(false, Sy.bool)] (qY [aJ true aN y135, aJ true aN y137]) fun (y138:Bool)=>aD (!y138) (v6 s77 k134 X76 i133 s56) (b7 Sy.str (List.map Sy.str.enc s77.1) fun (y140 : List ByteArray)=>X76 (y140, (s77.2.1.1, s77.2.1.2.1 ++ [i133], (List.map (aH Sy.str true aN) s56.2.1).length), ()))))) ([], ((List.map (aH Sy.str true aN) s56.2.1).length, [], (List.map (aH Sy.str true aN) s56.2.1).length), ()))) (0,y65,()))) (0,y54,()))) fun (i142:Nat)=>bT (decide ((List.map (aH Sy.str true aI) s40.2.1).length = (List.map (aH Sy.str true aI) s40.2.1).length)) (r7 Sy.str true aI (List.map (aH Sy.str true aI) s40.2.1) (s53.2.1.2.1++[i142]) fun (k143:ByteArray) (y144:bK)=>eC TypeDesc.string (Value.string k143) (List.map (aH Sy.str true aI) s29.2.1) true aI (bT (decide (((List.map Sy.str.enc s53.1).length + 1) * 16 ≤ 140737488355328) && decide ((List.map Sy.str.enc s53.1).length + 1 ≤ 140737488355328)) (b7 Sy.str (List.map Sy.str.enc s53.1 ++ [[T.v (.string k143)]]) fun (y148:List ByteArray)=>X52 (y148, (s53.2.1.1, s53.2.1.2.1++[i142], (List.map (aH Sy.str true aI) s40.2.1).length), ()))) fun (i145:Nat) (y146:bK)=>b7 Sy.str (List.map Sy.str.enc s53.1) fun (y147:List ByteArray)=>X52 (y147, (s53.2.1.1, s53.2.1.2.1++[i142], (List.map (aH Sy.str true aI) s40.2.1).length), ())))) (y51, ((List.map (aH Sy.str true aI) s40.2.1).length, [], (List.map (aH Sy.str true aI) s40.2.1).length), ())) fun (i149:Nat)=>bT (decide ((List.map (aH Sy.str true aI) s29.2.1).length = (List.map (aH Sy.str true aI) s29.2.1).length)) (r7 Sy.str true aI (List.map (aH Sy.str true aI) s29.2.1) (s50.2.1.2.1++[i149]) fun (k150:ByteArray) (y151:bK)=>eC TypeDesc.string (Value.string k150) (List.map (aH Sy.str true aI) s40.2.1) true aI (bT (decide (((m7 s50).length + 1) * 16 ≤ 140737488355328) && decide ((m7 s50).length+1 ≤ 140737488355328)) (b7 Sy.str (List.map Sy.str.enc s50.1 ++ [[T.v (.string k150)]]) fun (y157:List ByteArray)=>X49 (y157, (s50.2.1.1,s50.2.1.2.1++[i149], (List.map (aH Sy.str true aI) s29.2.1).length), ()))) fun (i152:Nat) (y153:bK)=>aY d9 (fI [aJ true aI y151, aJ true aI y153]) fun (y154:Bool)=>aD (!y154) (bT (decide (((m7 s50).length + 1) * 16 ≤ 140737488355328) && decide ((m7 s50).length + 1 ≤ 140737488355328)) (b7 Sy.str (List.map Sy.str.enc s50.1 ++ [[T.v (.string k150)]]) fun (y155:List ByteArray)=>X49 (y155, (s50.2.1.1, s50.2.1.2.1++[i149], (List.map (aH Sy.str true aI) s29.2.1).length), ()))) (b7 Sy.str (m7 s50) fun (y156:List ByteArray)=>X49 (y156, (s50.2.1.1, s50.2.1.2.1++[i149], (List.map (aH Sy.str true aI) s29.2.1).length), ()))))) ([], ((List.map (aH Sy.str true aI) s29.2.1).length, [], (List.map (aH Sy.str true aI) s29.2.1).length), ()))) (0,y38,()))) (0,y27,())) fun (i158:Nat)=>bT (decide ((List.map (aH Sy.str true aM) s13.2.1).length = (List.map (aH Sy.str true aM) s13.2.1).length)) (r7 Sy.str true aM (List.map (aH Sy.str true aM) s13.2.1) (s26.2.1.2.1++[i158]) fun (k159:ByteArray) (y160:bX)=>eC TypeDesc.string (Value.string k159) (List.map (aH Sy.str true aM) s2.2.1) true aM (bT (decide (((m7 s26).length+1)*16 ≤ 140737488355328) && decide ((m7 s26).length+1≤140737488355328)) (t7 s26 k159 X25 i158 s13)) fun (i161:Nat) (y162:bX)=>b7 Sy.str (m7 s26) fun (y163:List ByteArray)=>X25 (y163, (s26.2.1.1,s26.2.1.2.1++[i158], (List.map (aH Sy.str true aM) s13.2.1).length), ())))) (y24, ((List.map (aH Sy.str true aM) s13.2.1).length,[], (List.map (aH Sy.str true aM) s13.2.1).length), ())) fun (i165:Nat)=>bT (decide ((List.map (aH Sy.str true aM) s2.2.1).length = (List.map (aH Sy.str true aM) s2.2.1).length)) (r7 Sy.str true aM (List.map (aH Sy.str true aM) s2.2.1) (s23.2.1.2.1++[i165]) fun (k166:ByteArray) (y167:bX)=>eC TypeDesc.string (Value.string k166) (List.map (aH Sy.str true aM) s13.2.1) true aM (bT (decide (((m7 s23).length+1)*16≤140737488355328) && decide ((m7 s23).length+1≤140737488355328)) (t7 s23 k166 X22 i165 s2)) fun (i168:Nat) (y169:bX)=>aY d9 (qX [aJ true aM y167,aJ true aM y169]) fun (y170:Bool)=>aD (!y170) (bT (decide (((m7 s23).length+1)*16≤140737488355328) && decide ((m7 s23).length+1≤140737488355328)) (t7 s23 k166 X22 i165 s2)) (b7 Sy.str (m7 s23) fun (y172:List ByteArray)=>X22 (y172, (s23.2.1.1,s23.2.1.2.1++[i165], (List.map (aH Sy.str true aM) s2.2.1).length), ()))))) ([], ((List.map (aH Sy.str true aM) s2.2.1).length,[], (List.map (aH Sy.str true aM) s2.2.1).length), ()))) (0,y11,()))) (0,y0,())
abbrev oW:Sh:=[(true,aC),(true,aC)]
abbrev D8 (r:Sy) (gv:List T→Option T) (l:List r.den) (EXIT:Int×List (ByteArray×r.den)×PUnit→Prop):Prop :=
 cM Sy.str true r [] fun y0=>bB (Int×List (ByteArray×r.den)×PUnit) (fun X1 s2=>aD (decide (s2.1<(↑(List.map r.enc l).length:Int))) (aO r (List.map r.enc l) s2.1 fun y3=>aY [(false,Sy.str)] (gv [aJ true r y3]) fun (y4:ByteArray) =>
  eC TypeDesc.string (Value.string y4) (List.map (aH Sy.str true r) s2.2.1) true r
   (aY [(false,Sy.str)] (gv [aJ true r y3]) fun (y8:ByteArray)=>oR (Option (Nat×D)) (findD TypeDesc.string (Value.string y8) (List.map (aH Sy.str true r) s2.2.1) 0) fun y9 =>
    cM Sy.str true r (e8 (List.map (aH Sy.str true r) s2.2.1) y9 (Value.string y8) (D.p (aJ true r y3))) fun y10=>X1 (IntKind.i64.wrap (s2.1+1),y10,()))
   fun _ _=>cM Sy.str true r (List.map (aH Sy.str true r) s2.2.1) fun y7=>X1 (IntKind.i64.wrap (s2.1+1),y7,())) (EXIT s2)) (0,y0,())
theorem F2 {r:Sy} (hp:r.pure=true) (id:r.den→ByteArray) {gv:List T→Option T} (hv:∀ y,gv [aJ true r y]=some (Sh.enc [(false,Sy.str)] (id y))) {l:List r.den} (hl:l.length≤10000) {EXIT:Int×List (ByteArray×r.den)×PUnit→Prop}
  (hE:∀ i es,fG id l l.length es→EXIT (i,es,())):D8 r gv l EXIT:=by
 refine tQ hp [] _ ?_
 refine eD l.length (fun k s=>s.1=(k:Int)∧fG id l k s.2.1) ⟨rfl,fG.zero id l⟩ ?_
 rintro X k ⟨i,es,u⟩ hk ⟨rfl,hs⟩ hX
 dsimp only at hs ⊢
 rw[List.length_map]
 refine UG (fun hlt=>?_) fun hge=>?_
 ·have hlt:k<l.length:=by omega
  rw[c0 hlt]
  have hw:IntKind.i64.wrap ((k:Int)+1)=((k+1:Nat):Int):=fS _ (by omega) (by omega)
  refine aZ (s:=[(false,Sy.str)]) (y:=id l[k]) (hv _) ?_
  refine zF (fun hg=>?_) fun j y hg=>?_
  ·refine aZ (s:=[(false,Sy.str)]) (y:=id l[k]) (hv _) ?_
   refine TH hp hg ?_
   exact hX _ hlt ⟨hw,hs.yes hlt hg⟩
  ·refine tQ hp _ _ ?_
   exact hX _ hlt ⟨hw,hs.no hlt hg⟩
 ·have:k=l.length:=by omega
  subst this
  exact hE _ _ hs
abbrev MI (r:Sy) (E:List (Value×D)) (EXIT:kW→Prop) (BODY:(kW→Prop)→kW→Nat→ByteArray→r.den→Prop) (o:List ByteArray):Prop :=
 bB kW (fun X s=>bT (decide (E.length≤s.2.1.1)&&decide (s.2.1.1≤s.2.1.2.2)) (kZ E.length s.2.1.2.1 (EXIT s) fun i=>bT (decide (E.length=E.length)) (r7 .str true r E (s.2.1.2.1++[i]) fun k v=>BODY X s i k v))) (o,(E.length,[],E.length),())
abbrev NF (E:List (Value×D)) (X:kW→Prop) (s:kW) (i:Nat) (k:ByteArray):Prop :=
 bT (decide (((List.map Sy.str.enc s.1).length+1)*16≤140737488355328)&&decide ((List.map Sy.str.enc s.1).length+1≤140737488355328)) (b7 Sy.str (List.map Sy.str.enc s.1++[[T.v (.string k)]]) fun y=>X (y,(s.2.1.1,s.2.1.2.1++[i],E.length),()))
abbrev Q9 (E:List (Value×D)) (X:kW→Prop) (s:kW) (i:Nat):Prop:=b7 Sy.str (List.map Sy.str.enc s.1) fun y=>X (y,(s.2.1.1,s.2.1.2.1++[i],E.length),())
theorem KG {E:List (Value×D)} {X:kW→Prop} {out:List ByteArray} {seen:List Nat} {n i:Nat} {k:ByteArray} (h:out.length≤100000) (hX:X (out++[k],(n,seen++[i],E.length),())):NF E X (out,(n,seen,n),()) i k:=by
 show bT _ (b7 _ _ _)
 dsimp only
 rw[DP (by omega),tR]
 exact hX
theorem PG {E:List (Value×D)} {X:kW→Prop} {out:List ByteArray} {seen:List Nat} {n i:Nat} (hX:X (out,(n,seen++[i],E.length),())):Q9 E X (out,(n,seen,n),()) i:=by
 show b7 _ _ _
 dsimp only
 rw[pA (r:=.str) rfl]
 exact hX
abbrev NO (r:Sy) (gv gw:List T→Option T) (a b:List r.den) (K:kW→Prop):Prop :=
 D8 r gv a fun s2=>D8 r gv b fun s13 =>
  MI r (List.map (aH Sy.str true r) s2.2.1)
   (fun s23=>b7 Sy.str (List.map Sy.str.enc s23.1) fun y24 =>
    MI r (List.map (aH Sy.str true r) s13.2.1) K
     (fun X25 s26 i158 k159 _=>eC TypeDesc.string (Value.string k159) (List.map (aH Sy.str true r) s2.2.1) true r (NF (List.map (aH Sy.str true r) s13.2.1) X25 s26 i158 k159) fun _ _=>Q9 (List.map (aH Sy.str true r) s13.2.1) X25 s26 i158) y24)
   (fun X22 s23 i165 k166 y167=>eC TypeDesc.string (Value.string k166) (List.map (aH Sy.str true r) s13.2.1) true r (NF (List.map (aH Sy.str true r) s2.2.1) X22 s23 i165 k166)
    fun _ y169=>aY [(false,Sy.bool)] (gw [aJ true r y167,aJ true r y169]) fun (y170:Bool)=>aD (!y170) (NF (List.map (aH Sy.str true r) s2.2.1) X22 s23 i165 k166) (Q9 (List.map (aH Sy.str true r) s2.2.1) X22 s23 i165)) []
theorem pD {r:Sy} (hp:r.pure=true) (id:r.den→ByteArray) (same:r.den→r.den→Bool) {gv gw:List T→Option T} (hv:∀ y,gv [aJ true r y]=some (Sh.enc [(false,Sy.str)] (id y))) (hw:∀ x y,gw [aJ true r x,aJ true r y]=some (Sh.enc kR (same x y)))
  {a b:List r.den} (ha:a.length≤10000) (hb:b.length≤10000) {K:kW→Prop}
  (hK:∀ o n seen,(∀ s,s∈o↔FT same (a.find? fun x=>decide (id x=s)) (b.find? fun x=>decide (id x=s))=true)→o.length≤20000→K (o,(n,seen,n),())):NO r gv gw a b K:=by
 refine F2 hp id hv ha fun _ P hP=>?_
 refine F2 hp id hv hb fun _ Q hQ=>?_
 have lP:=hP.2.2
 have lQ:=hQ.2.2
 refine GO rfl (D3 same Q) (fun X out seen i hi h1 h2 hy hn=>?_) fun o1 seen1 hm1 hl1=>?_
 ·have h1:out.length≤0+seen.length:=h1
  have h2:seen.length<P.length:=h2
  refine zF (fun hg=>?_) fun j y hg=>?_
  ·exact KG (by omega) (hy (by unfold D3;rw[hg]))
  ·refine aZ (s:=kR) (y:=same P[i].2 y) (hw _ _) ?_
   refine uO (fun hs=>?_) fun hs=>?_
   ·exact KG (by omega) (hy (by unfold D3;rw[hg];simp[hs]))
   ·exact PG (hn (by unfold D3;rw[hg];simp[hs]))
 ·show b7 _ _ _
  dsimp only
  rw[pA (r:=.str) rfl,List.nil_append]
  refine GO rfl (HB P) (fun X out seen i hi h1 h2 hy hn=>?_) fun o2 seen2 hm2 hl2=>?_
  ·have h2:seen.length<Q.length:=h2
   have hl1:o1.length≤P.length:=hl1
   refine zF (fun hg=>?_) fun j y hg=>?_
   ·exact KG (by omega) (hy (by unfold HB;rw[hg];rfl))
   ·exact PG (hn (by unfold HB;rw[hg];rfl))
  ·have hl1:o1.length≤P.length:=hl1
   have hl2:o2.length≤Q.length:=hl2
   exact hK _ _ _ (fun s=>NN hP hQ hm1 hm2 s) (by rw[List.length_append];omega)
def wI (d:aR):Bool:=decide ((dO d).length≤10000)
theorem p0 {d:aR} (h:wI d=true):d.2.1.length≤10000∧d.2.2.1.length≤10000∧d.2.2.2.1.length≤10000∧d.2.2.2.2.1.length≤10000∧(dO d).length≤10000:=by
 have h:=of_decide_eq_true h
 have h':=h
 unfold dO at h
 simp only[List.length_append,List.length_map] at h
 exact ⟨by omega,by omega,by omega,by omega,h'⟩
noncomputable def fX (x:aR×aR):Option T:=match wI x.1&&wI x.2 with
 | true=>some (T.sl false (List.map Sy.str.enc (bD x.1 x.2)))
 | false=>none
noncomputable def dN:List T→Option T:=gS oW fX
theorem wA {a0 a1}:dN [aJ true aC a0,aJ true aC a1]=fX (a0,a1):=bW (s:=oW) rfl (a0,a1) rfl
theorem CG:vS Tryz.prog 11 dN fX (dS oW) oC:=iS (a1:=(true,aC)) (a2:=(true,aC)) (sp:=fX) (F:=oC) (Hs:=DF) (f:=11) (k:=12) yD a8 bA (aV rfl) ⟨_,_,Tryz.func11,rfl⟩ rfl fun _ _ _=>by kernel_rfl
theorem BM:aW Tryz.prog 11 dN:=CG fun a b r h hb=>by
 clear hb
 obtain ⟨hc,rfl⟩:=GM h
 clear h
 rw[Bool.and_eq_true] at hc
 obtain ⟨a1,a2,a3,a4,_⟩:=p0 hc.1
 obtain ⟨b1,b2,b3,b4,_⟩:=p0 hc.2
 unfold oC v6 t7 t2 t1 m7 i6 n4 gA t6 f9 m8 f5 eS d9
 refine pD (r:=aM) (gv:=j3) (gw:=qX) (a:=a.2.1) (b:=b.2.1) rfl (fun x=>x.1) fE (fun _=>HZ) (fun _ _=>H5) a1 b1 fun o1 _ _ m1 l1=>?_
 refine pD (r:=aI) (gv:=j4) (gw:=fI) (a:=a.2.2.1) (b:=b.2.2.1) rfl (fun x=>x.1) fE (fun _=>H0) (fun _ _=>wB) a2 b2 fun o2 _ _ m2 l2=>?_
 have sz:∀ {x y:List (List T)},x.length≤80000→y.length≤20000→(decide ((x.length+y.length)*16≤140737488355328)&&decide (x.length+y.length≤140737488355328))=true:=fun h1 h2=>by
  rw[Bool.and_eq_true]
  exact ⟨decide_eq_true (by omega),decide_eq_true (by omega)⟩
 have rq:∀ {x:List (List T)} {l:List ByteArray},x.length≤80000→l.length≤20000→(dL 1 (List.map Sy.str.enc l)&&decide ((x.length+(List.map Sy.str.enc l).length)*16≤140737488355328)&&decide (x.length+(List.map Sy.str.enc l).length≤140737488355328))=true:=fun {x l} h1 h2=>by
  rw[DM,Bool.true_and]
  exact sz h1 (by rw[List.length_map];exact h2)
 refine ⟨rq (x:=List.map Sy.str.enc o1) (by rw[List.length_map];omega) l2,?_⟩
 refine pD (r:=aN) (gv:=j5) (gw:=qY) (a:=a.2.2.2.1) (b:=b.2.2.2.1) rfl (fun x=>x.1) fE (fun _=>H3) (fun _ _=>H6) a3 b3 fun o3 _ _ m3 l3=>?_
 refine ⟨rq (x:=List.map Sy.str.enc o1++List.map Sy.str.enc o2) (by rw[List.length_append,List.length_map,List.length_map];omega) l3,?_⟩
 refine pD (r:=aA) (gv:=j2) (gw:=qW) (a:=a.2.2.2.2.1) (b:=b.2.2.2.2.1) rfl (fun x=>x.1) fE (fun _=>HY) (fun _ _=>H4) a4 b4 fun o4 _ _ m4 l4=>?_
 refine ⟨rq (x:=List.map Sy.str.enc o1++List.map Sy.str.enc o2++List.map Sy.str.enc o3) (by rw[List.length_append,List.length_append,List.length_map,List.length_map,List.length_map];omega) l4,?_⟩
 have hm:∀ s,s∈o1++o2++o3++o4↔iZ a b s=true:=fun s=>by
  rw[List.mem_append,List.mem_append,List.mem_append,m1,m2,m3,m4]
  unfold iZ
  rw[Bool.or_eq_true,Bool.or_eq_true,Bool.or_eq_true];rfl
 have hr:List.map Sy.str.enc o1++List.map Sy.str.enc o2++List.map Sy.str.enc o3++List.map Sy.str.enc o4=List.map Sy.str.enc (o1++o2++o3++o4):=by rw[List.map_append,List.map_append,List.map_append]
 show oR (List (List T)) (pP (List.map Sy.str.enc o1++List.map Sy.str.enc o2++List.map Sy.str.enc o3++List.map Sy.str.enc o4)) _
 rw[hr,EF,HW]
 show T.sl false (List.map Sy.str.enc (yS (o1++o2++o3++o4)))=_
 rw[rF hm]
end Go.Pv
namespace Go.Pv
open Go Go.Proofs Go.RowKit
noncomputable def AO:Env:=Env.of [(94,.pure jC),(95,.pure jE),(96,.pure jH),(97,.pure jD),(98,.pure e5),(68,.pure gV)]
def AQ:FuncId→Hint:=fun _=>bL
theorem vR:aG Tryz.prog AO:=.cons HL (.cons HO (.cons HS (.cons HN (.cons v8 (.cons BS (.nil _))))))
def t8(a0:aR)(a2:ByteArray):List T:=[aJ true aC a0,T.v (.string a2)]
def kU(a0:aR)(a1:aR)(a2:ByteArray)(R:T→Prop):Prop:=aY [(true,aM),(false,Sy.bool)] (jC (t8 a0 a2)) fun (y0:bX×Bool)=>aY [(true,aM),(false,Sy.bool)] (jC (t8 a1 a2)) fun (y1:bX×Bool)=>aY [(true,aI),(false,Sy.bool)] (jE (t8 a0 a2)) fun (y2:bK×Bool)=>aY [(true,aI),(false,Sy.bool)] (jE (t8 a1 a2)) fun (y3:bK×Bool)=>aY [(true,aN),(false,Sy.bool)] (jH (t8 a0 a2)) fun (y4:bY×Bool)=>aY [(true,aN),(false,Sy.bool)] (jH (t8 a1 a2)) fun (y5:bY×Bool)=>aY [(true,aA),(false,Sy.bool)] (jD (t8 a0 a2)) fun (y6:aQ×Bool)=>aY [(true,aA),(false,Sy.bool)] (jD (t8 a1 a2)) fun (y7:aQ×Bool)=>aD (!decide (y0.2=y1.2)) (R eI) (aD (!decide (y2.2=y3.2)) (R eI) (aD (!decide (y4.2=y5.2)) (R eI) (aD (!decide (y6.2=y7.2)) (R eI) (aD (!(decide (y0.1.1=y1.1.1) && (decide (y0.1.2.1=y1.1.2.1) && (decide (y0.1.2.2=y1.1.2.2)&&true)))) (R eI) (aY d9 (e5 [aJ true aI y2.1,aJ true aI y3.1]) fun (y8:Bool)=>aD (!y8) (R eI) (aD (!(decide (y4.1.1=y5.1.1) && (decide (y4.1.2.1=y5.1.2.1) && (decide (y4.1.2.2.1=y5.1.2.2.1) && (decide (y4.1.2.2.2.1=y5.1.2.2.2.1) && (decide (y4.1.2.2.2.2.1=y5.1.2.2.2.2.1) && (decide (y4.1.2.2.2.2.2=y5.1.2.2.2.2.2) && true))))))) (R eI) (aY d9 (gV [aJ true aA y6.1,aJ true aA y7.1]) fun (y9:Bool)=>R (T.v (.bool !y9)))))))))
abbrev mN:Sh:=[(true,aC),(true,aC),(false,Sy.str)]
noncomputable def gH (x:aR×aR×ByteArray):Option T:=some (Sh.enc kR (iZ x.1 x.2.1 x.2.2))
noncomputable def cT:List T→Option T:=gS mN gH
theorem uL {a0 a1 a2}:cT [aJ true aC a0,aJ true aC a1,T.v (.string a2)]=gH (a0,a1,a2):=bW (s:=mN) rfl (a0,a1,a2) rfl
theorem zU:UZ Tryz.prog 38 cT gH (dS mN) kU:=UM (a1:=(true,aC)) (a2:=(true,aC)) (a3:=(false,Sy.str)) (sp:=gH) (F:=kU) (Hs:=AQ) (f:=38) (k:=8) vR a8 bA (aV rfl) ⟨_,_,Tryz.func38,rfl⟩ rfl fun _ _ _ _=>by kernel_rfl
theorem mX {α:Type} (no:α) (x y:Option α):FT fE x y=(!decide ((found no x).2=(found no y).2) || !fE (found no x).1 (found no y).1):=by
 cases x<;>cases y<;>simp[FT,found]
theorem zH:aW Tryz.prog 38 cT:=zU fun a b id r h hb=>by
 cases h
 clear hb
 unfold kU t8 eI d9
 refine aZ (s:=[(true,aM),(false,.bool)]) (y:=found iP (fL a id)) (rO ..) ?_
 refine aZ (s:=[(true,aM),(false,.bool)]) (y:=found iP (fL b id)) (rO ..) ?_
 refine aZ (s:=[(true,aI),(false,.bool)]) (y:=found iQ (partOf a id)) (rQ ..) ?_
 refine aZ (s:=[(true,aI),(false,.bool)]) (y:=found iQ (partOf b id)) (rQ ..) ?_
 refine aZ (s:=[(true,aN),(false,.bool)]) (y:=found iR (fN a id)) (rS ..) ?_
 refine aZ (s:=[(true,aN),(false,.bool)]) (y:=found iR (fN b id)) (rS ..) ?_
 refine aZ (s:=[(true,aA),(false,.bool)]) (y:=found noPack (fM a id)) (rP ..) ?_
 refine aZ (s:=[(true,aA),(false,.bool)]) (y:=found noPack (fM b id)) (rP ..) ?_
 show _
 have e0:iZ a b id=(((!decide ((found iP (fL a id)).2=(found iP (fL b id)).2) || !fE (found iP (fL a id)).1 (found iP (fL b id)).1)||(!decide ((found iQ (partOf a id)).2=(found iQ (partOf b id)).2) || !fE (found iQ (partOf a id)).1 (found iQ (partOf b id)).1))||(!decide ((found iR (fN a id)).2=(found iR (fN b id)).2) || !fE (found iR (fN a id)).1 (found iR (fN b id)).1)||(!decide ((found noPack (fM a id)).2=(found noPack (fM b id)).2) || !fE (found noPack (fM a id)).1 (found noPack (fM b id)).1)):=by
  unfold iZ
  rw[mX iP,mX iQ,mX iR,mX noPack]
 generalize found iP (fL a id)=n1 at e0 ⊢
 generalize found iP (fL b id)=n2 at e0 ⊢
 generalize found iQ (partOf a id)=p1 at e0 ⊢
 generalize found iQ (partOf b id)=p2 at e0 ⊢
 generalize found iR (fN a id)=s1 at e0 ⊢
 generalize found iR (fN b id)=s2 at e0 ⊢
 generalize found noPack (fM a id)=k1 at e0 ⊢
 generalize found noPack (fM b id)=k2 at e0 ⊢
 have yes:iZ a b id=true→T.v (.bool true)=Sh.enc kR (iZ a b id):=fun h=>by rw[h];rfl
 refine T0 (fun h=>yes (by rw[e0,decide_eq_false h];simp)) fun h1=>?_
 refine T0 (fun h=>yes (by rw[e0,decide_eq_false h];simp)) fun h2=>?_
 refine T0 (fun h=>yes (by rw[e0,decide_eq_false h];simp)) fun h3=>?_
 refine T0 (fun h=>yes (by rw[e0,decide_eq_false h];simp)) fun h4=>?_
 refine uO (fun h=>yes ?_) fun h5=>?_
 ·have:fE n1.1 n2.1=false:=oJ fun e=>by rw[e] at h;simp at h
  rw[e0,this];simp
 have h5:fE n1.1 n2.1=true:=bM.2 (by
  simp only[Bool.and_true,Bool.and_eq_true,decide_eq_true_eq] at h5
  exact Prod.ext h5.1 (Prod.ext h5.2.1 h5.2.2))
 refine aZ (s:=kR) (y:=fE p1.1 p2.1) (r8 ..) ?_
 refine uO (fun h=>yes (by rw[e0,h];simp)) fun h6=>?_
 refine uO (fun h=>yes ?_) fun h7=>?_
 ·have:fE s1.1 s2.1=false:=oJ fun e=>by rw[e] at h;simp at h
  rw[e0,this];simp
 have h7:fE s1.1 s2.1=true:=bM.2 (by
  simp only[Bool.and_true,Bool.and_eq_true,decide_eq_true_eq] at h7
  exact Prod.ext h7.1 (Prod.ext h7.2.1 (Prod.ext h7.2.2.1 (Prod.ext h7.2.2.2.1 (Prod.ext h7.2.2.2.2.1 h7.2.2.2.2.2)))))
 refine aZ (s:=kR) (y:=fE k1.1 k2.1) (wC ..) ?_
 show T.v (.bool (!fE k1.1 k2.1))=Sh.enc kR (iZ a b id)
 rw[e0,decide_eq_true h1,decide_eq_true h2,decide_eq_true h3,decide_eq_true h4,h5,h6,h7]
 rfl
set_option maxHeartbeats 1000000 in
theorem H8 (h:ByteArray) (a1 a2 a3 a4 a5:Option Addr) (c1 c2 c3 c4 l5 c5:Nat) (w:World) :
  Calls Tryz.prog 37 #[.agg #[.string h,.slice a1 0 c1,.slice a2 0 c2,.slice a3 0 c3,.slice a4 0 c4,.slice a5 l5 c5]] w fun e w'=>e = .returned (.slice none 0 0)∧Below w.heap.size w w':=by
 have b0:Below w.heap.size w (w.alloc (.cells #[.string h,.slice a1 0 c1,.slice a2 0 c2,.slice a3 0 c3,.slice a4 0 c4,.slice a5 l5 c5] 28)):=(Below.refl _ w).alloc (Nat.le_refl _) _
 go_enter Tryz.func37,Tryz.ntmps37
 go_wp2
 refine wp_loop_rounds 1 ?_
 rw[rounds_succ]
 go_wp2
 refine wp_loop_rounds 1 ?_
 rw[rounds_succ]
 go_wp2
 refine wp_loop_rounds 1 ?_
 rw[rounds_succ]
 go_wp2
 refine wp_loop_rounds 1 ?_
 rw[rounds_succ]
 go_wp2
 go_ret
 exact ⟨rfl,b0⟩
theorem DR {w:World} {own:Nat→Prop} {hu:ByteArray} {n:List (List T)} {vs:Array Value} (ha:bE (a6 w own) [T.agg [T.v (.string hu),T.sl false [],T.sl false [],T.sl false [],T.sl false [],T.sl false n]] vs) :
  ∃ a1 a2 a3 a4 a5 c1 c2 c3 c4 l5 c5,vs = #[.agg #[.string hu,.slice a1 0 c1,.slice a2 0 c2,.slice a3 0 c3,.slice a4 0 c4,.slice a5 l5 c5]]:=by
 obtain ⟨hz,hv⟩:=ha
 rcases vs with ⟨l⟩
 match l,hz,hv with
 | [v0],_,hv =>
  have h0:a6 w own (T.agg [T.v (.string hu),T.sl false [],T.sl false [],T.sl false [],T.sl false [],T.sl false n]) v0:=hv 0 Nat.zero_lt_one
  cases h0 with
  | agg _ vc g1 g2 =>
   rcases vc with ⟨m⟩
   match m,g1,g2 with
   | [x0,x1,x2,x3,x4,x5],_,g2 =>
    have q0:a6 w own (T.v (.string hu)) x0:=g2 0 (show 0<6 by decide)
    have q1:a6 w own (T.sl false []) x1:=g2 1 (show 1<6 by decide)
    have q2:a6 w own (T.sl false []) x2:=g2 2 (show 2<6 by decide)
    have q3:a6 w own (T.sl false []) x3:=g2 3 (show 3<6 by decide)
    have q4:a6 w own (T.sl false []) x4:=g2 4 (show 4<6 by decide)
    have q5:a6 w own (T.sl false n) x5:=g2 5 (show 5<6 by decide)
    obtain ⟨a1,c1,rfl,_⟩:=q1.isSlice
    obtain ⟨a2,c2,rfl,_⟩:=q2.isSlice
    obtain ⟨a3,c3,rfl,_⟩:=q3.isSlice
    obtain ⟨a4,c4,rfl,_⟩:=q4.isSlice
    obtain ⟨a5,c5,rfl,_⟩:=q5.isSlice
    cases q0
    exact ⟨a1,a2,a3,a4,a5,c1,c2,c3,c4,_,c5,rfl⟩
noncomputable def CZ:Env:=Env.of []
def J1:FuncId→Hint:=iE 37 [(3,.inv [.own 3 1 .str,.val 4 false (.int .i64)]),(7,.inv [.own 3 1 .str,.val 5 false (.int .i64)]),(11,.inv [.own 3 1 .str,.val 6 false (.int .i64)]),(15,.inv [.own 3 1 .str,.val 7 false (.int .i64)])] (fun _=>bL)
theorem JN:aG Tryz.prog CZ:=.nil _
def n8(s1:List ByteArray×Int×PUnit):List (List T):=List.map Sy.str.enc s1.1
def DA(a0:aR)(R:List (List T)→Prop):Prop:=bB (List ByteArray×Int×PUnit) (fun X0 s1=>aD (decide (s1.2.1<(↑(t2 a0).length:Int))) (aO aM (t2 a0) s1.2.1 fun (y2:bX)=>bT (decide (((n8 s1).length+1)*16≤140737488355328) && decide ((n8 s1).length+1≤140737488355328)) (b7 Sy.str (List.map Sy.str.enc s1.1++[[T.v (.string y2.1)]]) fun (y3:List ByteArray)=>X0 (y3,IntKind.i64.wrap (s1.2.1+1),()))) (b7 Sy.str (n8 s1) fun (y4:List ByteArray)=>bB (List ByteArray×Int×PUnit) (fun X5 s6=>aD (decide (s6.2.1<(↑(t6 a0).length:Int))) (aO aI (t6 a0) s6.2.1 fun (y7:bK)=>bT (decide (((n8 s6).length+1)*16≤140737488355328) && decide ((n8 s6).length+1≤140737488355328)) (b7 Sy.str (List.map Sy.str.enc s6.1++[[T.v (.string y7.1)]]) fun (y8:List ByteArray)=>X5 (y8,IntKind.i64.wrap (s6.2.1+1),()))) (b7 Sy.str (n8 s6) fun (y9:List ByteArray)=>bB (List ByteArray×Int×PUnit) (fun X10 s11=>aD (decide (s11.2.1<(↑(t1 a0).length:Int))) (aO aN (t1 a0) s11.2.1 fun (y12:bY)=>bT (decide (((n8 s11).length+1)*16≤140737488355328) && decide ((n8 s11).length+1≤140737488355328)) (b7 Sy.str (List.map Sy.str.enc s11.1++[[T.v (.string y12.1)]]) fun (y13:List ByteArray)=>X10 (y13,IntKind.i64.wrap (s11.2.1+1),()))) (b7 Sy.str (n8 s11) fun (y14:List ByteArray)=>bB (List ByteArray×Int×PUnit) (fun X15 s16=>aD (decide (s16.2.1<(↑(m8 a0).length:Int))) (aO aA (m8 a0) s16.2.1 fun (y17:aQ)=>bT (decide (((n8 s16).length+1)*16≤140737488355328) && decide ((n8 s16).length+1≤140737488355328)) (b7 Sy.str (List.map Sy.str.enc s16.1++[[T.v (.string y17.1)]]) fun (y18:List ByteArray)=>X15 (y18,IntKind.i64.wrap (s16.2.1+1),()))) (R (n8 s16))) (y14,0,()))) (y9,0,()))) (y4,0,()))) ([],0,())
theorem GW ( a0 R):o0 cA Tryz.prog CZ J1 8 37 [aJ true aC a0] R=DA a0 R:=by kernel_rfl
abbrev AA:Sh:=[(true,aC)]
def qB (d:aR):Option (List (List T)):=match wI d with
 | true=>some (List.map Sy.str.enc (dO d))
 | false=>none
noncomputable def zL:List T→Option (List (List T)):=gS AA qB
theorem w9 {a0}:zL [aJ true aC a0]=qB (a0):=bW (s:=AA) rfl (a0) rfl
theorem OQ (h:∀ a0 r,qB (a0)=some r→dS AA (a0)→DA a0 (fun y=>y=r)):b6 Tryz.prog 37 zL :=
 HV (E:=CZ) (Hs:=J1) JN a8 bA (aV rfl) 8 ⟨_,_,Tryz.func37,rfl⟩ rfl fun x r h1 h2=>by
  let a0:=x
  rw[show Sh.fH AA (a0)=[aJ true aC a0] from rfl,GW]
  exact h a0 r h1 h2
theorem TL {c:Bool} {a r:List (List T)} (h:(match c with|true=>some a|false=>none)=some r):c=true∧a=r:=by
 cases c with
 | true=>exact ⟨rfl,Option.some.inj h⟩
 | false=>cases h
theorem o9 {r:Sy} {l:List r.den} (f:r.den→ByteArray) {o:List ByteArray} (ho:o.length+l.length≤100000) {EXIT:List ByteArray×Int×PUnit→Prop} (hE:∀ i,EXIT (o++l.map f,i,())) :
  bB (List ByteArray×Int×PUnit) (fun X s=>aD (decide (s.2.1<(↑(List.map r.enc l).length:Int))) (aO r (List.map r.enc l) s.2.1 fun y=>bT (decide (((List.map Sy.str.enc s.1).length+1)*16≤140737488355328)&&decide ((List.map Sy.str.enc s.1).length+1≤140737488355328)) (b7 .str (List.map Sy.str.enc s.1++[[T.v (.string (f y))]]) fun y4=>X (y4,IntKind.i64.wrap (s.2.1+1),()))) (EXIT s)) (o,0,()):=by
 rw[List.length_map]
 refine eD l.length (fun k s=>s=(o++(l.take k).map f,(k:Int),())) (by simp) ?_
 rintro X k s hk rfl hX
 dsimp only
 by_cases hlt:k<l.length
 ·refine lJ (by simp[hlt]) ?_
  rw[c0 hlt,DP (by simp;omega),tR]
  refine hX _ hlt ?_
  rw[List.take_succ_eq_append_getElem hlt,List.map_append,←List.append_assoc,show IntKind.i64.wrap ((k:Int)+1)=((k+1:Nat):Int) from fS _ (by omega) (by omega)];rfl
 ·have:k=l.length:=by omega
  subst this
  refine pR (by simp) ?_
  rw[List.take_length];exact hE _
theorem F4:b6 Tryz.prog 37 zL:=OQ fun d r h hb=>by
 clear hb
 obtain ⟨hc,rfl⟩:=TL h
 clear h
 obtain ⟨a1,a2,a3,a4,_⟩:=p0 hc
 unfold DA t2 t1 n8 t6 m8
 have dk:∀ {l:List ByteArray} {K:List ByteArray→Prop},K l→b7 Sy.str (List.map Sy.str.enc l) K:=fun h=>by rw[pA (r:=.str) rfl];exact h
 refine o9 (r:=aM) (l:=d.2.1) (fun x=>x.1) (o:=[]) (by simp;omega) fun _=>dk ?_
 refine o9 (r:=aI) (l:=d.2.2.1) (fun x=>x.1) (by simp;omega) fun _=>dk ?_
 refine o9 (r:=aN) (l:=d.2.2.2.1) (fun x=>x.1) (by simp;omega) fun _=>dk ?_
 refine o9 (r:=aA) (l:=d.2.2.2.2.1) (fun x=>x.1) (by simp;omega) fun _=>?_
 rfl
noncomputable def j1:List T→Option (List (List T)):=zL
theorem K6:s8 Tryz.prog 37 j1 where
 entry:=F4.entry
 calls:=fun w own args vs rows hG ho ha hg=>by
  by_cases hr:rows=[]
  ·subst hr
   obtain ⟨d,rfl,hd⟩:=zJ hg
   obtain ⟨_,hd⟩:=TL hd
   have hd:dO d=[]:=List.map_eq_nil_iff.1 hd
   unfold dO at hd
   simp only[List.append_eq_nil_iff,List.map_eq_nil_iff] at hd
   obtain ⟨hu,d1,d2,d3,d4,d5⟩:=d
   obtain ⟨⟨⟨h1,h2⟩,h3⟩,h4⟩:=hd
   dsimp only at h1 h2 h3 h4
   subst h1 h2 h3 h4
   obtain ⟨a1,a2,a3,a4,a5,c1,c2,c3,c4,l5,c5,rfl⟩:=DR (hu:=hu) (n:=List.map MW.enc d5) ha
   refine (H8 hu a1 a2 a3 a4 a5 c1 c2 c3 c4 l5 c5 w).mono ?_
   rintro e w' ⟨rfl,h2⟩
   exact ⟨_,rfl,h2,fun _=>.bH true none 0 (by simp) (by simp),fun h=>absurd rfl h⟩
  ·refine (F4.calls w own args vs rows hG ho ha hg).mono ?_
   rintro e w' ⟨v,rfl,h1,_,h2⟩
   exact ⟨v,rfl,h1,fun h=>absurd h hr,h2⟩
noncomputable def AN:Env:=Env.of [(37,.qR j1),(38,.pure cT)]
def AP:FuncId→Hint:=iE 9 [(4,.inv [.own 6 1 .str,.val 7 false .str,.val 8 false .bool]),(6,.inv [.val 9 false .str,.val 10 false .bool,.val 11 false (.int .i64)])] (fun _=>bL)
theorem vQ:aG Tryz.prog AN:=.cons K6 (.cons zH (.nil _))
def f6(s5:ByteArray×Bool×Int×PUnit)(R:T→Prop)(s3:List ByteArray×ByteArray×Bool×PUnit)(a0:aR)(a1:aR)(X2:List ByteArray×ByteArray×Bool×PUnit→Prop):Prop:=aD (!s5.2.1) (R (T.sl false (List.map Sy.str.enc s3.1))) (aY d9 (cT [aJ true aC a0,aJ true aC a1, T.v (.string s5.1)]) fun (y20:Bool)=>aD y20 (bT (decide (((List.map Sy.str.enc s3.1).length+1)*16≤140737488355328) && decide ((List.map Sy.str.enc s3.1).length+1≤140737488355328)) (b7 Sy.str (List.map Sy.str.enc s3.1++[[T.v (.string s5.1)]]) fun (y21:List ByteArray)=>X2 (y21,s5.1,true,()))) (b7 Sy.str (List.map Sy.str.enc s3.1) fun (y22:List ByteArray)=>X2 (y22,s5.1,true,())))
def i8(X4:ByteArray×Bool×Int×PUnit→Prop)(s5:ByteArray×Bool×Int×PUnit):Prop:=X4 (s5.1,s5.2.1,IntKind.i64.wrap (s5.2.2.1+1),())
def m6(y0:List ByteArray)(y44:List ByteArray):List (List T):=List.map Sy.str.enc y0++List.map Sy.str.enc y44
def f8(s69:ByteArray×Bool×Int×PUnit)(y0:List ByteArray)(y44:List ByteArray)(X68:ByteArray×Bool×Int×PUnit→Prop):Prop:=aD (!s69.2.1) (aO Sy.str (m6 y0 y44) s69.2.2.1 fun (y70:ByteArray)=>bR Sy.str (m6 y0 y44) (Int.toNat s69.2.2.1) 0 fun (y71:ByteArray)=>X68 (y71,true,IntKind.i64.wrap (s69.2.2.1+1),())) (aO Sy.str (m6 y0 y44) s69.2.2.1 fun (y72:ByteArray)=>bR Sy.str (m6 y0 y44) (Int.toNat s69.2.2.1) 0 fun (y73:ByteArray)=>aD (dK y73 s69.1) (aO Sy.str (m6 y0 y44) s69.2.2.1 fun (y74:ByteArray)=>bR Sy.str (m6 y0 y44) (Int.toNat s69.2.2.1) 0 fun (y75:ByteArray)=>X68 (y75,true,IntKind.i64.wrap (s69.2.2.1+1),())) (i8 X68 s69))
def GT(s5:ByteArray×Bool×Int×PUnit)(X4:ByteArray×Bool×Int×PUnit→Prop):Prop:=aO Sy.str [] s5.2.2.1 fun (y6:ByteArray)=>bR Sy.str [] (Int.toNat s5.2.2.1) 0 fun (y7:ByteArray)=>X4 (y7,true,IntKind.i64.wrap (s5.2.2.1+1),())
def i7(s5:ByteArray×Bool×Int×PUnit)(X4:ByteArray×Bool×Int×PUnit→Prop):Prop:=aD (!s5.2.1) (GT s5 X4) (aO Sy.str [] s5.2.2.1 fun (y8:ByteArray)=>bR Sy.str [] (Int.toNat s5.2.2.1) 0 fun (y9:ByteArray)=>aD (dK y9 s5.1) (GT s5 X4) (i8 X4 s5))
def n6(y0:List ByteArray):List (List T):=List.map Sy.str.enc y0++[]
def m0(y0:List ByteArray)(s48:ByteArray×Bool×Int×PUnit)(X47:ByteArray×Bool×Int×PUnit→Prop):Prop:=aO Sy.str (n6 y0) s48.2.2.1 fun (y53:ByteArray)=>bR Sy.str (n6 y0) (Int.toNat s48.2.2.1) 0 fun (y54:ByteArray)=>X47 (y54,true,IntKind.i64.wrap (s48.2.2.1+1),())
def m9(y1:List ByteArray)(s26:ByteArray×Bool×Int×PUnit)(X25:ByteArray×Bool×Int×PUnit→Prop):Prop:=aO Sy.str (f7 y1) s26.2.2.1 fun (y31:ByteArray)=>bR Sy.str (f7 y1) (Int.toNat s26.2.2.1) 0 fun (y32:ByteArray)=>X25 (y32,true,IntKind.i64.wrap (s26.2.2.1+1),())
def IR(y1:List ByteArray)(s26:ByteArray×Bool×Int×PUnit)(X25:ByteArray×Bool×Int×PUnit→Prop):Prop:=aO Sy.str (f7 y1) s26.2.2.1 fun (y29:ByteArray)=>bR Sy.str (f7 y1) (Int.toNat s26.2.2.1) 0 fun (y30:ByteArray)=>aD (dK y30 s26.1) (m9 y1 s26 X25) (i8 X25 s26)
def LE(y0:List ByteArray)(s48:ByteArray×Bool×Int×PUnit)(X47:ByteArray×Bool×Int×PUnit→Prop):Prop:=aO Sy.str (n6 y0) s48.2.2.1 fun (y51:ByteArray)=>bR Sy.str (n6 y0) (Int.toNat s48.2.2.1) 0 fun (y52:ByteArray)=>aD (dK y52 s48.1) (m0 y0 s48 X47) (i8 X47 s48)
def kT(a0:aR)(a1:aR)(R:T→Prop):Prop:=oM Sy.str (j1 [aJ true aC a0]) fun (y0:List ByteArray)=>aD y0.isEmpty (oM Sy.str (j1 [aJ true aC a1]) fun (y1:List ByteArray)=>aD y1.isEmpty (bT true (bB (List ByteArray×ByteArray×Bool×PUnit) (fun X2 s3=>bB (ByteArray×Bool×Int×PUnit) (fun X4 s5=>aD (decide (s5.2.2.1<(↑0:Int))) (aD (!s3.2.2.1) (i7 s5 X4) (aO Sy.str [] s5.2.2.1 fun (y12:ByteArray)=>bR Sy.str [] (Int.toNat s5.2.2.1) 0 fun (y13:ByteArray)=>aD (!(dK y13 s3.2.1||decide (y13=s3.2.1))) (i7 s5 X4) (i8 X4 s5))) (f6 s5 R s3 a0 a1 X2)) ({data:=#[]},false,0,())) ([],{data:=#[]},false,()))) (bT ((f7 y1).all fun (x:List T)=>x.all T.flat) (bT (dL 1 (f7 y1)&&true && decide ((f7 y1).length*16≤140737488355328) && decide ((f7 y1).length≤140737488355328)) (bB (List ByteArray×ByteArray×Bool×PUnit) (fun X23 s24=>bB (ByteArray×Bool×Int×PUnit) (fun X25 s26=>aD (decide (s26.2.2.1<(↑(f7 y1).length:Int))) (aD (!s24.2.2.1) (aD (!s26.2.1) (aO Sy.str (f7 y1) s26.2.2.1 fun (y27:ByteArray)=>bR Sy.str (f7 y1) (Int.toNat s26.2.2.1) 0 fun (y28:ByteArray)=>X25 (y28,true,IntKind.i64.wrap (s26.2.2.1+1),())) (IR y1 s26 X25)) (aO Sy.str (f7 y1) s26.2.2.1 fun (y33:ByteArray)=>bR Sy.str (f7 y1) (Int.toNat s26.2.2.1) 0 fun (y34:ByteArray)=>aD (!(dK y34 s24.2.1||decide (y34=s24.2.1))) (aD (!s26.2.1) (m9 y1 s26 X25) (IR y1 s26 X25)) (i8 X25 s26))) (f6 s26 R s24 a0 a1 X23)) ({data:=#[]},false,0,())) ([],{data:=#[]},false,()))))) (bT ((f7 y0).all fun (x:List T)=>x.all T.flat) (oM Sy.str (j1 [aJ true aC a1]) fun (y44:List ByteArray)=>aD y44.isEmpty (bT (decide (((f7 y0).length+0)*16≤140737488355328) && decide ((f7 y0).length+0≤140737488355328)) (bB (List ByteArray×ByteArray×Bool×PUnit) (fun X45 s46=>bB (ByteArray×Bool×Int×PUnit) (fun X47 s48=>aD (decide (s48.2.2.1<(↑(n6 y0).length:Int))) (aD (!s46.2.2.1) (aD (!s48.2.1) (aO Sy.str (n6 y0) s48.2.2.1 fun (y49:ByteArray)=>bR Sy.str (n6 y0) (Int.toNat s48.2.2.1) 0 fun (y50:ByteArray)=>X47 (y50,true,IntKind.i64.wrap (s48.2.2.1+1),())) (LE y0 s48 X47)) (aO Sy.str (n6 y0) s48.2.2.1 fun (y55:ByteArray)=>bR Sy.str (n6 y0) (Int.toNat s48.2.2.1) 0 fun (y56:ByteArray)=>aD (!(dK y56 s46.2.1||decide (y56=s46.2.1))) (aD (!s48.2.1) (m0 y0 s48 X47) (LE y0 s48 X47)) (i8 X47 s48))) (f6 s48 R s46 a0 a1 X45)) ({data:=#[]},false,0,())) ([],{data:=#[]},false,()))) (bT ((f7 y44).all fun (x:List T)=>x.all T.flat) (bT (dL 1 (f7 y44) && decide (((f7 y0).length+(f7 y44).length)*16 ≤ 140737488355328) && decide ((f7 y0).length+(f7 y44).length≤140737488355328)) (bB (List ByteArray×ByteArray×Bool×PUnit) (fun X66 s67=>bB (ByteArray×Bool×Int×PUnit) (fun X68 s69=>aD (decide (s69.2.2.1 < (↑(m6 y0 y44).length:Int))) (aD (!s67.2.2.1) (f8 s69 y0 y44 X68) (aO Sy.str (m6 y0 y44) s69.2.2.1 fun (y76:ByteArray)=>bR Sy.str (m6 y0 y44) (Int.toNat s69.2.2.1) 0 fun (y77:ByteArray)=>aD (!(dK y77 s67.2.1||decide (y77=s67.2.1))) (f8 s69 y0 y44 X68) (i8 X68 s69))) (f6 s69 R s67 a0 a1 X66)) ({data:=#[]},false,0,())) ([],{data:=#[]},false,()))))))
abbrev mM:Sh:=[(true,aC),(true,aC)]
theorem u7 {L:List ByteArray} {k:Nat} {K:ByteArray→Prop} (h:k<L.length) (hk:K L[k]):aO Sy.str (List.map Sy.str.enc L) (k:Int) fun _=>bR Sy.str (List.map Sy.str.enc L) (Int.toNat (k:Int)) 0 K:=by
 rw[c0 (r:=.str) h,Int.toNat_natCast,MD (r:=.str) h]
 exact hk
theorem p7 {a b:aR} {all:List ByteArray} (hall:all=dO a++dO b) (hsz:all.length≤20000) {rows:List (List T)} (hr:rows=List.map Sy.str.enc all) {n:Int} (hn:n=(all.length:Int)) {R:T→Prop} (hR:R (T.sl false (List.map Sy.str.enc (bD a b)))) :
  bB (List ByteArray×ByteArray×Bool×PUnit) (fun X s=>bB (ByteArray×Bool×Int×PUnit) (fun Y q=>aD (decide (q.2.2.1<n))
   (aD (!s.2.2.1)
    (aD (!q.2.1) (aO Sy.str rows q.2.2.1 fun _=>bR Sy.str rows (Int.toNat q.2.2.1) 0 fun y=>Y (y,true,IntKind.i64.wrap (q.2.2.1+1),()))
     (aO Sy.str rows q.2.2.1 fun _=>bR Sy.str rows (Int.toNat q.2.2.1) 0 fun y=>aD (dK y q.1)
      (aO Sy.str rows q.2.2.1 fun _=>bR Sy.str rows (Int.toNat q.2.2.1) 0 fun y=>Y (y,true,IntKind.i64.wrap (q.2.2.1+1),()))
      (Y (q.1,q.2.1,IntKind.i64.wrap (q.2.2.1+1),()))))
    (aO Sy.str rows q.2.2.1 fun _=>bR Sy.str rows (Int.toNat q.2.2.1) 0 fun y=>aD (!(dK y s.2.1||decide (y=s.2.1)))
     (aD (!q.2.1) (aO Sy.str rows q.2.2.1 fun _=>bR Sy.str rows (Int.toNat q.2.2.1) 0 fun y=>Y (y,true,IntKind.i64.wrap (q.2.2.1+1),()))
      (aO Sy.str rows q.2.2.1 fun _=>bR Sy.str rows (Int.toNat q.2.2.1) 0 fun y=>aD (dK y q.1)
       (aO Sy.str rows q.2.2.1 fun _=>bR Sy.str rows (Int.toNat q.2.2.1) 0 fun y=>Y (y,true,IntKind.i64.wrap (q.2.2.1+1),()))
       (Y (q.1,q.2.1,IntKind.i64.wrap (q.2.2.1+1),()))))
     (Y (q.1,q.2.1,IntKind.i64.wrap (q.2.2.1+1),()))))
   (aD (!q.2.1) (R (T.sl false (List.map Sy.str.enc s.1)))
    (aY [(false,Sy.bool)] (cT [aJ true aC a,aJ true aC b,T.v (.string q.1)]) fun (c:Bool)=>aD c
     (bT (decide (((List.map Sy.str.enc s.1).length+1)*16≤140737488355328)&&decide ((List.map Sy.str.enc s.1).length+1≤140737488355328)) (b7 Sy.str (List.map Sy.str.enc s.1++[[T.v (.string q.1)]]) fun y=>X (y,q.1,true,())))
     (b7 Sy.str (List.map Sy.str.enc s.1) fun y=>X (y,q.1,true,()))))) (⟨#[]⟩,false,0,())) ([],⟨#[]⟩,false,()):=by
 subst hr hn
 refine xE (fun s=>fZ xF all (fun t=>iZ a b t=true) s.1 s.2.2.1 s.2.1∧s.1.length+rV xF all s.2.2.1 s.2.1≤all.length) (fun s=>rV xF all s.2.2.1 s.2.1) ⟨fZ.zero ..,?_⟩ ?_
 ·unfold rV
  have:=List.length_filter_le (fun s=>@decide (iW xF false (⟨#[]⟩:ByteArray) s) (Classical.propDecidable _)) all
  simpa using this
 rintro X ⟨out,last,begun,u⟩ ⟨hT,hlen⟩ hX
 dsimp only at hT hlen hX ⊢
 refine eD all.length (fun k q=>q.2.2.1=(k:Int)∧eK xF all begun last k q.1 q.2.1) ⟨rfl,eK.zero ..⟩ ?_
 rintro Y k ⟨nx,sm,i,u'⟩ hk ⟨rfl,hL⟩ hY
 dsimp only at hL ⊢
 refine UG (fun hlt=>?_) fun hge=>?_
 ·have hlt:k<all.length:=by omega
  have hw:IntKind.i64.wrap ((k:Int)+1)=((k+1:Nat):Int):=fS _ (by omega) (by omega)
  have tk:iW xF begun last all[k]→(sm=false∨xF all[k] nx)→Y (all[k],true,IntKind.i64.wrap ((k:Int)+1),()):=fun h1 h2=>hY _ hlt ⟨hw,hL.take B5 hlt h1 h2⟩
  have sk:(¬ iW xF begun last all[k]∨(sm=true∧¬ xF all[k] nx))→Y (nx,sm,IntKind.i64.wrap ((k:Int)+1),()):=fun h=>hY _ hlt ⟨hw,hL.skip hlt h⟩
  have ns:∀ {x y:ByteArray},dK x y=false→¬ xF x y:=fun {x y} h h'=>by rw[(sK x y).2 h'] at h;cases h
  refine uO (fun hb=>?_) fun hb=>?_
  ·have he:iW xF begun last all[k]:=.inl hb
   exact uO (fun hs=>u7 hlt (tk he (.inl hs))) fun hs=>u7 hlt (R4 (fun h=>u7 hlt (tk he (.inr ((sK _ _).1 h)))) fun h=>sk (.inr ⟨hs,ns h⟩))
  ·refine u7 hlt (uO (fun hc=>?_) fun hc=>?_)
   ·have he:iW xF begun last all[k]:=.inr (Classical.byContradiction fun hn=>by
     rw[Bool.or_eq_false_iff,decide_eq_false_iff_not] at hc
     exact hc.2 (B5.UQ (ns hc.1) hn))
    exact uO (fun hs=>u7 hlt (tk he (.inl hs))) fun hs=>u7 hlt (R4 (fun h=>u7 hlt (tk he (.inr ((sK _ _).1 h)))) fun h=>sk (.inr ⟨hs,ns h⟩))
   ·refine sk (.inl fun he=>?_)
    have hl:xF last all[k]:=he.resolve_left (by rw[hb];simp)
    rw[Bool.or_eq_true,decide_eq_true_eq] at hc
    rcases hc with hc|hc
    ·exact B5.S5 _ (B5.tr hl ((sK _ _).1 hc))
    ·rw[hc] at hl;exact B5.S5 _ hl
 ·have:k=all.length:=by omega
  subst this
  refine uO (fun hs=>?_) fun hs=>?_
  ·subst hs
   have hd:=hT.done hL
   have e:out=bD a b:=BB hd.1 (by rw[←hall];exact hd.2)
   rw[e];exact hR
  ·subst hs
   refine aZ (s:=kR) (y:=iZ a b nx) (uL ..) ?_
   have hd:=LN B5 hL
   refine R4 (fun hD=>?_) fun hD=>?_
   ·rw[DP (by omega),tR]
    exact hX _ ⟨hT.take B5 hL hD,by show (out++[nx]).length+rV xF all true nx≤all.length;rw[List.length_append];simp only[List.length_singleton];omega⟩ hd
   ·rw[pA (r:=.str) rfl]
    exact hX _ ⟨hT.skip B5 hL (by rw[hD];simp),by show out.length+rV xF all true nx≤all.length;omega⟩ hd
noncomputable def fA (x:aR×aR):Option T:=match wI x.1&&wI x.2 with
 | true=>some (T.sl false (List.map Sy.str.enc (bD x.1 x.2)))
 | false=>none
noncomputable def eT:List T→Option T:=gS mM fA
theorem uK {a0 a1}:eT [aJ true aC a0,aJ true aC a1]=fA (a0,a1):=bW (s:=mM) rfl (a0,a1) rfl
theorem zT:vS Tryz.prog 9 eT fA (dS mM) kT:=iS (a1:=(true,aC)) (a2:=(true,aC)) (sp:=fA) (F:=kT) (Hs:=AP) (f:=9) (k:=10) vQ a8 bA (aV rfl) ⟨_,_,Tryz.func9,rfl⟩ rfl fun _ _ _=>by kernel_rfl
theorem D9 (l:List ByteArray):((List.map Sy.str.enc l).all fun x=>x.all T.flat)=true:=by
 rw[List.all_map];exact List.all_eq_true.2 fun _ _=>rfl
theorem zG:aW Tryz.prog 9 eT:=zT fun a b r h hb=>by
 clear hb
 obtain ⟨hc,rfl⟩:=GM h
 clear h
 rw[Bool.and_eq_true] at hc
 obtain ⟨_,_,_,_,la⟩:=p0 hc.1
 obtain ⟨_,_,_,_,lb⟩:=p0 hc.2
 dsimp only at la lb
 have ia:j1 [aJ true aC a]=some (List.map Sy.str.enc (dO a)):=(w9 ..).trans (by unfold qB;rw[hc.1])
 have ib:j1 [aJ true aC b]=some (List.map Sy.str.enc (dO b)):=(w9 ..).trans (by unfold qB;rw[hc.2])
 unfold kT LE IR m9 m0 n6 i7 GT f8 m6 i8 f7 f6 d9
 have fin:∀ {all:List ByteArray},all=dO a++dO b→all.length≤20000:=fun h=>by rw[h,List.length_append];omega
 refine qS ia _ ?_
 refine R4 (fun h1=>?_) fun h1=>?_
 ·have e1:dO a=[]:=by simpa using h1
  refine qS ib _ ?_
  refine R4 (fun h2=>?_) fun h2=>?_
  ·have e2:dO b=[]:=by simpa using h2
   have e:([]:List ByteArray)=dO a++dO b:=by rw[e1,e2];rfl
   exact ⟨rfl,p7 (R:=fun y=>y=T.sl false (List.map Sy.str.enc (bD a b))) (all:=[]) e (fin e) rfl rfl rfl⟩
  ·have e:dO b=dO a++dO b:=by rw[e1];rfl
   refine ⟨D9 _,?_,p7 (R:=fun y=>y=T.sl false (List.map Sy.str.enc (bD a b))) (all:=dO b) e (fin e) rfl (by rw[List.length_map]) rfl⟩
   rw[DM,List.length_map]
   simp only[Bool.and_eq_true,decide_eq_true_eq]
   exact ⟨⟨⟨trivial,trivial⟩,by omega⟩,by omega⟩
 ·refine ⟨D9 _,?_⟩
  refine qS ib _ ?_
  refine R4 (fun h2=>?_) fun h2=>?_
  ·have e2:dO b=[]:=by simpa using h2
   have e:dO a=dO a++dO b:=by rw[e2,List.append_nil]
   refine ⟨?_,p7 (R:=fun y=>y=T.sl false (List.map Sy.str.enc (bD a b))) (all:=dO a) e (fin e) (List.append_nil _) (by rw[List.append_nil,List.length_map]) rfl⟩
   simp
   omega
  ·refine ⟨D9 _,?_,p7 (R:=fun y=>y=T.sl false (List.map Sy.str.enc (bD a b))) (all:=dO a++dO b) rfl (fin rfl) (List.map_append ..).symm (by rw[←List.map_append,List.length_map]) rfl⟩
   rw[DM,List.length_map,List.length_map]
   simp only[Bool.and_eq_true,decide_eq_true_eq]
   exact ⟨⟨trivial,by omega⟩,by omega⟩
noncomputable def JJ:Env:=Env.of []
def J5:FuncId→Hint:=iE 10 [(4,.inv [.val 5 false (.int .i64)])] (fun _=>bL)
theorem C6:aG Tryz.prog JJ:=.nil _
def sZ(a0:List ByteArray)(a1:List ByteArray)(R:T→Prop):Prop:=aD (!decide ((↑(f7 a0).length:Int)=(↑(f7 a1).length:Int))) (R d7) (g9 a0 a1 R)
abbrev vD:Sh:=[(false,Sy.str.li),(false,Sy.str.li)]
noncomputable def nH (x:List ByteArray×List ByteArray):Option T:=some (Sh.enc kR (fE x.1 x.2))
noncomputable def jF:List T→Option T:=gS vD nH
theorem rR {a0 a1}:jF [T.sl false (List.map Sy.str.enc a0),T.sl false (List.map Sy.str.enc a1)]=nH (a0,a1):=bW (s:=vD) rfl (a0,a1) rfl
theorem IT:vS Tryz.prog 10 jF nH (dS vD) sZ:=iS (a1:=(false,Sy.str.li)) (a2:=(false,Sy.str.li)) (sp:=nH) (F:=sZ) (Hs:=J5) (f:=10) (k:=8) C6 a8 bA (aV rfl) ⟨_,_,Tryz.func10,rfl⟩ rfl fun _ _ _=>by kernel_rfl
theorem HP:aW Tryz.prog 10 jF:=IT fun a b r h hb=>by
 cases h
 unfold sZ g9 H1 f7 eI d7
 exact jM (r:=.str) (R:=fun y=>y=Sh.enc kR (fE a b)) hb.1.1 _ (fun x y=>decide_eq_true_iff) rfl
end Go.Pv
namespace Go.Pv
open Go Go.Proofs
theorem BP:b6 Tryz.prog 135 (fU 4 40):=dF a8 bA ⟨_,_,Tryz.func135,rfl⟩ ⟨fun R=>by kernel_rfl,fun fl R=>by kernel_rfl,fun fl a rows R=>by kernel_rfl⟩
theorem BN:b6 Tryz.prog 138 (fU 1 8):=dF a8 bA ⟨_,_,Tryz.func138,rfl⟩ ⟨fun R=>by kernel_rfl,fun fl R=>by kernel_rfl,fun fl a rows R=>by kernel_rfl⟩
theorem wY:b6 Tryz.prog 139 (fU 3 40):=dF a8 bA ⟨_,_,Tryz.func139,rfl⟩ ⟨fun R=>by kernel_rfl,fun fl R=>by kernel_rfl,fun fl a rows R=>by kernel_rfl⟩
theorem w4:b6 Tryz.prog 140 (fU 6 72):=dF a8 bA ⟨_,_,Tryz.func140,rfl⟩ ⟨fun R=>by kernel_rfl,fun fl R=>by kernel_rfl,fun fl a rows R=>by kernel_rfl⟩
theorem wX:b6 Tryz.prog 141 (fU 3 40):=dF a8 bA ⟨_,_,Tryz.func141,rfl⟩ ⟨fun R=>by kernel_rfl,fun fl R=>by kernel_rfl,fun fl a rows R=>by kernel_rfl⟩
theorem F3:b6 Tryz.prog 167 (fU 2 16):=dF a8 bA ⟨_,_,Tryz.func167,rfl⟩ ⟨fun R=>by kernel_rfl,fun fl R=>by kernel_rfl,fun fl a rows R=>by kernel_rfl⟩
theorem BO:b6 Tryz.prog 168 (fU 1 24):=dF a8 bA ⟨_,_,Tryz.func168,rfl⟩ ⟨fun R=>by kernel_rfl,fun fl R=>by kernel_rfl,fun fl a rows R=>by kernel_rfl⟩
theorem w3:b6 Tryz.prog 169 (fU 18 208):=dF a8 bA ⟨_,_,Tryz.func169,rfl⟩ ⟨fun R=>by kernel_rfl,fun fl R=>by kernel_rfl,fun fl a rows R=>by kernel_rfl⟩
theorem wZ:b6 Tryz.prog 170 (fU 5 88):=dF a8 bA ⟨_,_,Tryz.func170,rfl⟩ ⟨fun R=>by kernel_rfl,fun fl R=>by kernel_rfl,fun fl a rows R=>by kernel_rfl⟩
theorem BQ:b6 Tryz.prog 198 (fU 1 16):=dF a8 bA ⟨_,_,Tryz.func198,rfl⟩ ⟨fun R=>by kernel_rfl,fun fl R=>by kernel_rfl,fun fl a rows R=>by kernel_rfl⟩
def F5:FuncId→Bool:=fun f=>[313,128,191,110,251,258].contains f
noncomputable def LI:Env:=Env.of [(311,.pure lC),(135,.fresh (fU 4 40)),(138,.fresh (fU 1 8)),(139,.fresh (fU 3 40)),(140,.fresh (fU 6 72)),(141,.fresh (fU 3 40)),(167,.fresh (fU 2 16)),(168,.fresh (fU 1 24)),(169,.fresh (fU 18 208)),(170,.fresh (fU 5 88)),(198,.fresh (fU 1 16)),(5000000000+28,.mark)]
theorem ID:aG Tryz.prog LI:=aG.cons (x:=.pure lC) uF (aG.cons (x:=.fresh (fU 4 40)) BP (aG.cons (x:=.fresh (fU 1 8)) BN (aG.cons (x:=.fresh (fU 3 40)) wY (aG.cons (x:=.fresh (fU 6 72)) w4 (aG.cons (x:=.fresh (fU 3 40)) wX (aG.cons (x:=.fresh (fU 2 16)) F3 (aG.cons (x:=.fresh (fU 1 24)) BO (aG.cons (x:=.fresh (fU 18 208)) w3 (aG.cons (x:=.fresh (fU 5 88)) wZ (aG.cons (x:=.fresh (fU 1 16)) BQ (aG.cons (x:=.mark) trivial (aG.nil _))))))))))))
noncomputable def UF:List T→Option T:=I6 Tryz.prog 400 F5 LI 40 56
theorem QV:aW Tryz.prog 56 UF:=u5 a8 bA 400 F5 ID 40 (xT (k:=39) (fn:=_) (c:=_) (by kernel_rfl) Tryz.func56 rfl (by kernel_rfl))
noncomputable def LG:Env:=Env.of [(311,.pure lC),(56,.pure UF)]
theorem IC:aG Tryz.prog LG:=aG.cons (x:=.pure lC) uF (aG.cons (x:=.pure UF) QV (aG.nil _))
noncomputable def UE:List T→Option T:=I6 Tryz.prog 400 F5 LG 40 70
theorem QU:aW Tryz.prog 70 UE:=u5 a8 bA 400 F5 IC 40 (xT (k:=39) (fn:=_) (c:=_) (by kernel_rfl) Tryz.func70 rfl (by kernel_rfl))
def QX:FuncId→Bool:=fun f=>[33,35,434,36,92,31,313,128,191,11,39,42,45,48,52,105,149,53].contains f
noncomputable def F8:Env:=Env.of [(311,.pure lC),(70,.pure UE),(135,.fresh (fU 4 40)),(138,.fresh (fU 1 8)),(139,.fresh (fU 3 40)),(140,.fresh (fU 6 72)),(141,.fresh (fU 3 40)),(167,.fresh (fU 2 16)),(168,.fresh (fU 1 24)),(169,.fresh (fU 18 208)),(170,.fresh (fU 5 88)),(198,.fresh (fU 1 16))]
theorem EM:aG Tryz.prog F8:=aG.cons (x:=.pure lC) uF (aG.cons (x:=.pure UE) QU (aG.cons (x:=.fresh (fU 4 40)) BP (aG.cons (x:=.fresh (fU 1 8)) BN (aG.cons (x:=.fresh (fU 3 40)) wY (aG.cons (x:=.fresh (fU 6 72)) w4 (aG.cons (x:=.fresh (fU 3 40)) wX (aG.cons (x:=.fresh (fU 2 16)) F3 (aG.cons (x:=.fresh (fU 1 24)) BO (aG.cons (x:=.fresh (fU 18 208)) w3 (aG.cons (x:=.fresh (fU 5 88)) wZ (aG.cons (x:=.fresh (fU 1 16)) BQ (aG.nil _))))))))))))
def S3:List T→Option T:=fun args=>match args with | []=>some (.v (.bool true))|_=>none
def gJ:List T→Option T:=S3
theorem EA:aW Tryz.prog 8 gJ :=
 HM a8 bA 400 QX (B:=F8) EM 40 (by kernel_rfl)
end Go.Pv
namespace Go.Pv
open Go Go.Proofs
noncomputable def yB:Env:=Env.of [(7,.pure w8),(9,.pure eT),(11,.pure dN),(10,.pure jF),(8,.pure gJ)]
def yK:FuncId→Hint:=fun _=>bL
theorem sU:aG Tryz.prog yB:=.cons QT (.cons zG (.cons BM (.cons HP (.cons EA (.nil _)))))
def f0:Sh:=[(false,Sy.str.li)]
def jP(a0:aR)(a1:aR)(R:T→Prop):Prop:=aY d9 (w8 [aJ true aC a0,T.v (.int .i64 40)]) fun (y0:Bool)=>aD (!y0) (aY d9 (gJ []) fun (y1:Bool)=>R (T.v (.bool y1))) (aY d9 (w8 [aJ true aC a1,T.v (.int .i64 40)]) fun (y2:Bool)=>aD (!y2) (aY d9 (gJ []) fun (y3:Bool)=>R (T.v (.bool y3))) (aY f0 (eT [aJ true aC a0,aJ true aC a1]) fun (y4:List ByteArray)=>aY f0 (dN [aJ true aC a0,aJ true aC a1]) fun (y5:List ByteArray)=>aY d9 (jF [T.sl false (f7 y5),T.sl false (f7 y4)]) fun (y6:Bool)=>aD y6 (aY f0 (dN [aJ true aC a1,aJ true aC a0]) fun (y7:List ByteArray)=>aY d9 (jF [T.sl false (f7 y7), T.sl false (f7 y4)]) fun (y8:Bool)=>aD y8 (aY f0 (dN [aJ true aC a0,aJ true aC a0]) fun (y9:List ByteArray)=>aD (decide ((↑(f7 y9).length:Int)=0)) (aY d9 (gJ []) fun (y10:Bool)=>R (T.v (.bool y10))) (R d7)) (R d7)) (R d7)))
abbrev gG:Sh:=[(true,aC),(true,aC)]
def eG (x:aR×aR):Option T:=some (T.v (.bool true))
noncomputable def pO:List T→Option T:=gS gG eG
theorem wG:vS Tryz.prog 3 pO eG (dS gG) jP:=iS (a1:=(true,aC)) (a2:=(true,aC)) (sp:=eG) (F:=jP) (Hs:=yK) (f:=3) (k:=8) sU a8 bA (aV rfl) ⟨_,_,Tryz.func3,rfl⟩ rfl fun _ _ _=>by kernel_rfl
theorem K4 {d:aR} (h:F0 d 40=true):wI d=true:=by
 unfold F0 at h
 simp only[Bool.and_eq_true,decide_eq_true_eq] at h
 unfold wI dO
 refine decide_eq_true ?_
 simp only[List.length_append,List.length_map]
 omega
theorem QJ {K:Bool→Prop} (h:K true):aY [(false,Sy.bool)] (gJ []) K:=aZ (s:=[(false,.bool)]) (y:=true) rfl h
theorem v7:aW Tryz.prog 3 pO:=wG fun a b r h hb=>by
 clear hb
 cases h
 unfold jP f7 f0 d9 d7
 refine aZ (s:=kR) (y:=F0 a 40) (BX ..) ?_
 refine uO (fun _=>QJ rfl) fun ha=>?_
 refine aZ (s:=kR) (y:=F0 b 40) (BX ..) ?_
 refine uO (fun _=>QJ rfl) fun hb=>?_
 have ia:=K4 ha
 have ib:=K4 hb
 have cP:∀ {x y:aR},wI x=true→wI y=true→dN [aJ true aC x,aJ true aC y]=some (Sh.enc [(false,Sy.str.li)] (bD x y)):=fun {x y} h1 h2=>(wA ..).trans (by unfold fX;rw[h1,h2];rfl)
 have cR:eT [aJ true aC a,aJ true aC b]=some (Sh.enc [(false,Sy.str.li)] (bD a b)):=(uK ..).trans (by unfold fA;rw[ia,ib];rfl)
 refine aZ (s:=[(false,Sy.str.li)]) cR ?_
 refine aZ (s:=[(false,Sy.str.li)]) (cP ia ib) ?_
 refine aZ (s:=kR) (y:=fE (bD a b) (bD a b)) (rR ..) ?_
 rw[bM.2 rfl]
 refine e7.2 ⟨fun _=>?_,fun h=>by cases h⟩
 refine aZ (s:=[(false,Sy.str.li)]) (cP ib ia) ?_
 refine aZ (s:=kR) (y:=fE (bD b a) (bD a b)) (rR ..) ?_
 rw[yX b a,bM.2 rfl]
 refine e7.2 ⟨fun _=>?_,fun h=>by cases h⟩
 refine aZ (s:=[(false,Sy.str.li)]) (cP ia ia) ?_
 rw[yY a]
 exact UG (fun _=>QJ rfl) fun h=>absurd rfl h
theorem wJ:∀ x:aR×aR,QD gG x→eG x=some (.v (.bool true)):=fun x _=>rfl
end Go.Pv
