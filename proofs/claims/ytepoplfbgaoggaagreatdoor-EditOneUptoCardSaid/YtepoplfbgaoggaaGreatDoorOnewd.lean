/-
  The pure evaluator, part d: aggregates and slices that are built, slices that are cut.
-/
import Derived.Test.YtepoplfbgaoggaaGreatDoorOnewc
set_option linter.defProp false
set_option linter.unusedSimpArgs false
namespace Go.Pv
open Go Go.RowKit
def b6 {α:Type} (cells:List α) (off:Nat):List α->List α
 | []=>cells
 | x::xs=>b6 (cells.set off x) (off+1) xs
@[simp] def BFU {α:Type} (xs:List α):∀ (cells:List α) (off:Nat),(b6 cells off xs).length=cells.length:=by
 induction xs with
 | nil=>intro cells off;rfl
 | cons x xs ih=>intro cells off;simp[b6,ih]
def TV (pl:List (Nat×Nat)) (cells:List D):List (Nat×D)->Option (List D)
 | []=>some cells
 | (i,d)::rest =>
  match pl[i]? with
  | none=>none
  | some (off,z)=>if 0<z/\d.cells.length=z/\off+z<=cells.length then TV pl (b6 cells off d.cells) rest else none
def placesOf (P:Program) (t:TypeId):Option (List (Nat×Nat)) :=
 match P.underlying t with
 | some (.struct fs)=>fs.toList.mapM λf=>(tsz? P f.type).map (f.offset,·)
 | some (.array n e)=>(tsz? P e).map λz=>(List.range n).map λi=>(i*z,z)
 | _=>none
def APM (P:Program) (t:TypeId) (parts:List (Nat×D)):Option D :=
 match tz? P t,placesOf P t with
 | some z,some pl=>(TV pl (z.cells.toList.map λv=>.p (.v v)) parts).map Z4
 | _,_=>none
def ZH (off:Nat):∀ (xs:List Value) (k:Nat) (cs:Array Value),
  (xs.zipIdx k).foldl (λ(cs:Array Value) (x:Value×Nat)=>cs.setIfInBounds (off+x.2) x.1) cs=((b6 cs.toList (off+k) xs).toArray:Array Value)
 | [],k,cs=>by simp[b6]
 | x::xs,k,cs=>by
  simp only[List.zipIdx_cons,List.foldl_cons,b6];rw[ZH off xs (k+1) _];simp[Nat.add_assoc]
def fill_eq (cs:Array Value) (off:Nat) (v:Value):v.cells.zipIdx.foldl (λ(cs:Array Value) (x:Value×Nat)=>cs.setIfInBounds (off+x.2) x.1) cs=(b6 cs.toList off v.cells.toList).toArray:=by
 rw[<-Array.foldl_toList,Array.toList_zipIdx,ZH];simp
section
variable {P : Program} {w : World} {own : Nat -> Prop} {ρ : Nat -> Option Loc}
def AA1 {R:D->Value->Prop}:∀ {xs:List D} {us:List Value} {cells:List D} {vs:List Value} (off:Nat),dO R xs us.toArray->dO R cells vs.toArray->dO R (b6 cells off xs) (b6 vs off us).toArray
 | [],[],_,_,_,_,h=>h
 | [],u::us,_,_,_,h,_=>by simp[dO] at h
 | x::xs,[],_,_,_,h,_=>by simp[dO] at h
 | x::xs,u::us,cells,vs,off,h,h'=>by
  have h0:=h.2 0 (by simp);have ht:dO R xs us.toArray:=⟨by simpa using h.1,λi hi=>by
   have:=h.2 (i+1) (by simp;omega);simpa [Array.getD_eq_getD_getElem?] using this⟩
  have hs:=h'.set off (d:=x) (v:=u) (by simpa [Array.getD_eq_getD_getElem?] using h0);simp only[List.setIfInBounds_toArray] at hs;exact AA1 (off+1) ht hs
def AC7 (pl:List (Nat×Nat)) (place:Nat->Option (Nat×Nat)) (hp:∀ i,place i=pl[i]?):∀ {parts:List (Nat×D)} {vparts:List (Nat×Value)} {cells r:List D} {vs:Array Value},
  parts.length=vparts.length->(∀ i (h:i<parts.length) (h':i<vparts.length),parts[i].1=vparts[i].1/\Rd w own ρ parts[i].2 vparts[i].2)->dO (Rd w own ρ) cells vs->TV pl cells parts=some r ->
  ∃ us,Instr.fill place vs vparts=some us/\dO (Rd w own ρ) r us
 | [],[],_,_,vs,_,_,hc,h=>by simp only[TV] at h;cases h;exact ⟨vs,rfl,hc⟩
 | [],_::_,_,_,_,hl,_,_,_=>by simp at hl
 | _::_,[],_,_,_,hl,_,_,_=>by simp at hl
 | (i,d)::parts,(i',v)::vparts,cells,r,vs,hl,hr,hc,h=>by
  obtain ⟨e,hd⟩:=hr 0 (by simp) (by simp);simp only[List.getElem_cons_zero] at e hd;subst e;simp only[TV] at h;split at h
  ·cases h
  ·rename_i off z hz;split at h
   ·rename_i hok;have hcl:=hd.cells (λe=>by rw[e] at hok;simp at hok;omega);have hsz:v.cells.size=z:=by rw[hcl.1];exact hok.2.1
    have hnext:=AA1 (R:=Rd w own ρ) off (xs:=d.cells) (us:=v.cells.toList) (cells:=cells) (vs:=vs.toList) (by simpa using hcl) (by simpa using hc);obtain ⟨us,h1,h2⟩:=AC7 pl place hp (parts:=parts) (vparts:=vparts) (by simpa using hl) (λi hi hi'=>by
     have:=hr (i+1) (by simp;omega) (by simp;omega);simpa using this) hnext h
    refine ⟨us,?_,h2⟩;simp only[Instr.fill,hp,hz];rw[if_neg,fill_eq]
    ·exact h1
    ·have:=hc.1;simp[hsz];omega
   ·cases h
def ALI {fs:List Field} {pl:List (Nat×Nat)} (h:fs.mapM (λf=>(tsz? P f.type).map (f.offset,·))=some pl) (w:World) :
  (fs.mapM (λf=>do pure (f.offset,<-sizeOf f.type):Field->Sem (Nat×Nat))).run P w = .ok pl w:=by
 induction fs generalizing pl with
 | nil=>simp at h;subst h;simp
 | cons f fs ih =>
  simp only[List.mapM_cons,Option.bind_eq_bind,Option.bind_eq_some_iff,Option.pure_def,aa] at h;obtain ⟨x,⟨z,hz,rfl⟩,y,hy,hxy⟩:=h;cases hxy;simp only[List.mapM_cons,Sem.run_bind,run_sizeOf? w hz,Result.andThen_ok,Sem.run_pure,ih hy]
def AZI {t:TypeId} {parts:List (Nat×D)} {vparts:List (Nat×Value)} {r:D} (hl:parts.length=vparts.length)
  (hr:∀ i (h:i<parts.length) (h':i<vparts.length),parts[i].1=vparts[i].1/\Rd w own ρ parts[i].2 vparts[i].2) (h:APM P t parts=some r) :
  ∃ v,(Instr.build t vparts.toArray).run P w = .ok v w/\Rd w own ρ r v:=by
 unfold APM at h;split at h
 ·rename_i z pl hz hpl;simp only[aa] at h;obtain ⟨cs,hf,rfl⟩:=h;have h0:dO (Rd w own ρ) (z.cells.toList.map λv=>D.p (.v v)) z.cells:=dO.vs (λv=>.p _ _ (.v v)) _;unfold placesOf at hpl;split at hpl
  ·rename_i fs hu;obtain ⟨us,h1,h2⟩:=AC7 pl (pl.toArray[·]?) (λi=>by simp) hl hr h0 hf;refine ⟨.agg us,?_,VC h2⟩;have hm:=ALI hpl w;simp only[Instr.build,Sem.run_bind,run_zero? w hz,Result.andThen_ok,run_underlying hu,Array.mapM_eq_mapM_toList,Sem.run_map,hm,h1,Sem.run_pure]
  ·rename_i n e hu;simp only[aa] at hpl;obtain ⟨sz,hsz,rfl⟩:=hpl;by_cases hbig:∀ x∈parts,x.1<n
   ·have key:∃ us,Instr.fill (λi=>some (i*sz,sz)) z.cells vparts=some us/\dO (Rd w own ρ) cs us:=by
     obtain ⟨us,h1,h2⟩:=AC7 _ (((List.range n).map λi=>(i*sz,sz))[·]?) (λi=>rfl) hl hr h0 hf;refine ⟨us,?_,h2⟩;have hcong:∀ (vp:List (Nat×Value)) (c:Array Value),(∀ x∈vp,x.1<n)->Instr.fill (λi=>some (i*sz,sz)) c vp=Instr.fill (((List.range n).map λi=>(i*sz,sz))[·]?) c vp:=by
      intro vp
      induction vp with
      | nil=>intro c _;rfl
      | cons x vp ih =>
       intro c hx;have hx0:=hx x (by simp);have e:((List.range n).map λi=>(i*sz,sz))[x.1]? = some (x.1*sz,sz):=by simp[hx0]
       simp only[Instr.fill,e];split
       ·rfl
       ·exact ih _ (λy hy=>hx y (by simp[hy]))
     rw[hcong _ _ ?_]
     ·exact h1
     ·intro x hx;obtain ⟨i,hi,rfl⟩:=List.mem_iff_getElem.1 hx;have:=(hr i (by omega) hi).1;rw[<-this];exact hbig _ (ak _)
    obtain ⟨us,h1,h2⟩:=key;refine ⟨.agg us,?_,VC h2⟩;simp[Instr.build,run_zero? w hz,run_underlying hu,run_sizeOf? w hsz,h1]
   ·exfalso;apply hbig;intro x hx;have:∀ (ps:List (Nat×D)) (c r:List D),TV ((List.range n).map λi=>(i*sz,sz)) c ps=some r->∀ x∈ps,x.1<n:=by
     intro ps
     induction ps with
     | nil=>intro _ _ _ x hx;cases hx
     | cons y ps ih =>
      obtain ⟨j,d⟩:=y;intro c r hf x hx;simp only[TV] at hf;split at hf
      ·cases hf
      ·rename_i off z' hz';split at hf
       ·rcases List.mem_cons.1 hx with rfl|hx
        ·have:=(List.getElem?_eq_some_iff.1 hz').1;simpa using this
        ·exact ih _ _ hf x hx
       ·cases hf
    exact this _ _ _ hf x hx
  ·cases hpl
 ·cases h
end
end Go.Pv
