/-
  The pure evaluator, part q: from a function that computes 'true' on all that can be read to the row's step.
-/
import Derived.Test.YtepoplfbgaoggaaGreatDoorOnewp
import Derived.ProofKit
import Derived.OpenShut
import Derived.ShutString
import Derived.ChangeOld
import Derived.Below
import Derived.HandedShaped
set_option linter.defProp false
set_option linter.unusedSimpArgs false
namespace Go.Pv
open Go Go.RowKit Go.WideShapes Go.ChangeShapes
def A7G (B:Nat) (P:Program) (t:TypeId) (a:T):Prop :=
 match P.underlying t with
 | some (.struct _)|some (.array _ _)=>∃ ts,a = .agg ts/\YZ B P t ts
 | _=>YZ B P t [a]
section
variable {B : Nat} {P : Program} {W : World} {H : Type} {enc : TypeId × Value -> H}
def BMG (hB:B<=2 ^ 47) {n:Nat} {base:Nat} {t:TypeId} {v:Value} {d:DataW H} {ps:List MemPlace} (hok:okT P n t=true) (hval:Value.okWide P W .any base t v) (h:DataW.Trod enc P W 0 (λ_=>true) true t v d ps)
  (hw:(d.weights P t).all (· <= B)=true):∃ a:T,RdN W a v/\A7G B P t a:=by
 obtain ⟨fuel,h⟩:=h;obtain ⟨h1,ts,h2,h3⟩:=BKF hB n fuel t _ _ hok h hw;have one:(∀ cs,v≠.agg cs)->∃ a,ts=[a]/\RdN W a v:=by
  intro hne;have hc:v.cells = #[v]:=by cases v<;>first|rfl|exact absurd rfl (hne _)
  rw[hc] at h2;have hl:ts.length=1:=by have:=h2.1;simpa using this.symm
  obtain ⟨a,rfl⟩:=List.length_eq_one_iff.1 hl;have:=h2.2 0 (by simp);exact ⟨a,rfl,by simpa using this⟩
 unfold A7G;unfold Value.okWide at hval;split at hval
 ·rename_i fs hu;obtain ⟨cs,rfl,_⟩:=hval;refine ⟨.agg ts,?_,?_⟩
  ·have h2':dO (RdN W) ts cs:=by simpa [Value.cells] using h2
   exact .agg ts cs h2'.1 h2'.2
  ·simp only[hu];exact ⟨ts,rfl,h3⟩
 ·rename_i m e hu;obtain ⟨cs,rfl,_⟩:=hval;refine ⟨.agg ts,?_,?_⟩
  ·have h2':dO (RdN W) ts cs:=by simpa [Value.cells] using h2
   exact .agg ts cs h2'.1 h2'.2
  ·simp only[hu];exact ⟨ts,rfl,h3⟩
 ·rename_i hns hna;have hne:∀ cs,v≠.agg cs:=by
   rintro cs rfl;cases h3 with
   | bool _ b hu=>simp[Cell.okWide,Cell.ok,hu] at hval
   | int _ k m hu _=>simp[Cell.okWide,Cell.ok,hu] at hval
   | string _ s hu _=>simp[Cell.okWide,Cell.ok,hu] at hval
   | slice _ e a f rows hu=>simp[Cell.okWide,Cell.ok,hu] at hval
   | parts _ pl _ _ hpl =>
    unfold partsOf at hpl;split at hpl
    ·rename_i fs hu;exact hns fs hu
    ·rename_i m e hu;exact hna m e hu
    ·cases hpl
  obtain ⟨a,rfl,ha⟩:=one hne;refine ⟨a,ha,?_⟩;split
  ·rename_i fs hu;exact absurd hu (hns fs)
  ·rename_i m e hu;exact absurd hu (hna m e)
  ·exact h3
def EN {W':World} (hl:laidOutB P=true) (hb:Below W.heap.size W W'):∀ {ts:List TypeId} {vs:List Value} {ds:List (DataW H)} {ps:List MemPlace},(∀ t∈ts,P.readableRec t=true/\t<P.types.size) ->
  DataW.TrodAll enc P W 0 (λ_=>true) true ts vs ds ps->DataW.TrodAll enc P W' 0 (λb=>decide (b<W.heap.size)) true ts vs ds ps
 | [],[],[],ps,_,h=>h
 | t::ts,v::vs,d::ds,ps,hr,h=>by
  obtain ⟨p,q,h1,h2,e⟩:=h;have hlt:∀ x∈p,x.block<W.heap.size:=by obtain ⟨m,hm⟩:=h1;exact DataW.trod_lt m _ _ _ hm
  exact ⟨p,q,Below.trod hl (hr t (by simp)).1 (hr t (by simp)).2 h1 hb hlt,EN hl hb (λt ht=>hr t (by simp[ht])) h2,e⟩
 | [],[],_::_,_,_,h=>h.elim
 | [],_::_,_,_,_,h=>by cases h
 | _::_,[],_,_,_,h=>by cases h
 | _::_,_::_,[],_,_,h=>by cases h
inductive SS (B:Nat) (P:Program):List TypeId->List T->Prop
 | nil:SS B P [] []
 | cons {t:TypeId} {a:T} {ts:List TypeId} {as:List T}:A7G B P t a->SS B P ts as->SS B P (t::ts) (a::as)
def AUN (hB:B<=2 ^ 47) {n base:Nat}:∀ {ts:List TypeId} {vs:List Value} {ds:List (DataW H)} {ps:List MemPlace},(∀ t∈ts,okT P n t=true)->(∀ (j:Nat) (t:TypeId) (v:Value),ts[j]? = some t->vs[j]? = some v->Value.okWide P W .any base t v) ->
  DataW.TrodAll enc P W 0 (λ_=>true) true ts vs ds ps->(DataW.weightsEach P ts ds).all (· <= B)=true->∃ as,dO (RdN W) as vs.toArray/\SS B P ts as
 | [],[],[],ps,_,_,_,_=>⟨[],dO.nil,.nil⟩
 | t::ts,v::vs,d::ds,ps,hok,hval,h,hw=>by
  obtain ⟨p,q,h1,h2,e⟩:=h;simp only[DataW.weightsEach,List.all_append,ac] at hw;obtain ⟨a,ha,hta⟩:=BMG hB (hok t (by simp)) (hval 0 t v (by simp) (by simp)) h1 hw.1;obtain ⟨as,has,htas⟩:=AUN hB (λt ht=>hok t (by simp[ht])) (λj t v ht hv=>hval (j+1) t v (by simpa using ht) (by simpa using hv)) h2 hw.2;have:=(dO.one (R:=RdN W) ha).append has;exact ⟨a::as,by simpa using this,.cons hta htas⟩
 | [],[],_::_,_,_,_,h,_=>h.elim
 | [],_::_,_,_,_,_,h,_=>by cases h
 | _::_,[],_,_,_,_,h,_=>by cases h
 | _::_,_::_,[],_,_,_,h,_=>by cases h
def PI:∀ {ts:List TypeId} {vs:List Value} {ds:List (DataW H)} {ps:List MemPlace},DataW.TrodAll enc P W 0 (λ_=>true) true ts vs ds ps->ds.length=ts.length
 | [],[],[],_,_=>rfl
 | _::ts,_::vs,_::ds,_,h=>by
  obtain ⟨p,q,_,h2,_⟩:=h;simp[PI h2]
 | [],[],_::_,_,h=>h.elim
 | [],_::_,_,_,h=>by cases h
 | _::_,[],_,_,h=>by cases h
 | _::_,_::_,[],_,h=>by cases h
end
def BIG {P:Program} {W:World} (hl:decide (P.globals.size<P.low)=true) (h:W.ShapedOpen P):Good P W:=by
 refine ⟨h,?_⟩;have hl:P.globals.size<P.low:=of_decide_eq_true hl;obtain ⟨o,o₀,h1,_⟩:=h.2 (P.low-1) (by omega) (by
  have:P.low=(begin P (λ_ _=>0) default).world.heap.size:=rfl;omega)
 have:=(Array.getElem?_eq_some_iff.1 h1).1;omega
end Go.Pv
