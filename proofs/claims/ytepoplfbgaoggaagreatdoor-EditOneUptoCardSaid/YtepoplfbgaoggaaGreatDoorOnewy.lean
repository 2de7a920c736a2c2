/-
  The pure evaluator, part y: maps and slices that are made, maps that are written.
-/
import Derived.Test.YtepoplfbgaoggaaGreatDoorOnewk
import Derived.Maps.RangeRun
import Derived.Laws.MakeOwn
set_option linter.defProp false
set_option linter.unusedSimpArgs false
namespace Go.Pv
open Go Go.RowKit Go.MapKept
def gB (es:List (Value×D)) (r:Option (Nat×D)) (k:Value) (d:D):List (Value×D) :=
 match r with
 | some (i,_)=>es.set i (k,d)
 | none=>es++[(k,d)]
def A11 (P:Program) (σ:Nat->Option bL) (t:TypeId) (x i v:D):Option (Nat->Option bL) :=
 match P.underlying t with
 | some (.map kt _) =>
  match C1 P kt,i,x with
  | some kd,.p (.v k),.map m =>
   match L8 kd k,σ m with
   | true,some (.map false es) =>
    match findD kd k es 0 with
    | some r=>some (cJ σ m (some (.map false (gB es r k v))))
    | none=>none
   | _,_=>none
  | _,_,_=>none
 | _=>none
def BTI (σ:Nat->Option bL) (x s v:D):Option (Nat->Option bL) :=
 match x,s with
 | .map m,.p (.v (.int _ j)) =>
  match σ m with
  | some (.map false es) =>
   match 0<=j&&j<es.length,es[j.toNat]? with
   | true,some e=>some (cJ σ m (some (.map false (es.set j.toNat (e.1,v)))))
   | _,_=>none
  | _=>none
 | _,_=>none
def AVH (P:Program) (σ:Nat->Option bL) (k:Nat) (t:TypeId) (d:D):Option (D×(Nat->Option bL)) :=
 match P.underlying t,d with
 | some (.map _ _),.p (.mp es)=>some (.it k,cJ σ k (some (.cF es es.length [] es.length)))
 | _,_=>none
def A8H (σ:Nat->Option bL) (d:D):Option D :=
 match d with
 | .it k =>
  match σ k with
  | some (.cF es _ seen last) =>
   match decide (es.length=last),seen.getLast? with
   | true,some i=>(es[i]?).map λe=>.p (.cB [.v e.1,e.2])
   | _,_=>none
  | _=>none
 | _=>none
section
variable {cx : Cx} {ρ : Nat -> Option Loc} {σ : Nat -> Option bL} {n : Nat} {w : World} {own : Nat -> Prop}
variable {kd:TypeDesc}{k':Value}
def AFZ {k:Value} (h:Instr.sameNow kd k k'=some true):Instr.sameBits 10000 k' k=true:=by
 unfold Instr.sameNow at h;split at h
 ·split at h
  ·rename_i hk;subst hk;simp at h;subst h;simp[Instr.sameBits]
  ·cases h
 ·simp only[Option.some.injEq] at h;have:=(bytes_beq _ _).1 h;subst this;simp only[Instr.sameBits];omega
 ·simp at h;subst h;simp[Instr.sameBits]
 ·cases h
def AE1 {P:Program} {k:Value} (h:Instr.sameNow kd k k'=some true):(Instr.keyThatStays k' k).run P w = .ok k w:=by
 simp[Instr.keyThatStays,AFZ h]
variable {es:List (Value×D)}{ents:Array MapEntry}
def EU.set (h:EU w own ρ ents.toList es 0) (j:Nat) (k:Value) {d:D} {f:MapEntry->MapEntry} (hf:∀ e,(f e).key=k/\(f e).born=e.born) (hd:∀ e,ents[j]? = some e->Rd w own ρ d (f e).val) :
  EU w own ρ (ents.modify j f).toList (es.set j (k,d)) 0:=by
 refine ⟨by simpa using h.1,λi hi=>?_⟩;obtain ⟨e,h1,h2,h3,h4⟩:=h.2 i (by simpa using hi);have hsz:i<ents.size:=by have:=(List.getElem?_eq_some_iff.1 h1).1;simpa using this
 have h1':ents[i]? = some e:=by rw[<-Array.getElem?_toList];exact h1
 by_cases e':j=i
 ·subst e';refine ⟨f e,?_,?_,?_,?_⟩
  ·rw[Array.getElem?_toList,Array.getElem?_modify,if_pos rfl,h1'];rfl
  ·simp[(hf e).1]
  ·rw[(hf e).2];exact h3
  ·simpa using hd e h1'
 ·refine ⟨e,?_,?_,h3,?_⟩
  ·rw[Array.getElem?_toList,Array.getElem?_modify,if_neg e'];exact h1'
  ·rw[List.getElem_set_ne e'];exact h2
  ·rw[List.getElem_set_ne e'];exact h4
def EU.push (h:EU w own ρ ents.toList es 0) (k:Value) {d:D} {v:Value} (hd:Rd w own ρ d v):EU w own ρ (ents.push { key:=k,val:=v,born:=es.length }).toList (es++[(k,d)]) 0:=by
 have hs:ents.size=es.length:=by simpa using h.1
 refine ⟨by simp[hs],λi hi=>?_⟩;simp at hi;by_cases e:i<es.length
 ·obtain ⟨x,h1,h2,h3,h4⟩:=h.2 i e;simp_all
 ·have e':i=es.length:=by omega
  simp_all
variable {l:Loc}
def EU.box (h:EU w own ρ ents.toList es 0):gC w own ρ l (.map ents es.length) (.map false es) :=
 .map false es ents (by simpa using h.1) λi hi=>by
  obtain ⟨e,a,b,c,d⟩:=h.2 i hi;simp_all
def Inv.BEW (hI:Inv cx ρ σ n w) {m:Nat} {es':List (Value×D)} (hm:σ m=some (.map false es)) (hl:ρ m=some l) (hL:0<l.L+l.C) {ents':Array MapEntry} (ho:w.heap[l.bV]? = some (.map ents es.length)) (hE:EU w (bY cx ρ σ) ρ ents'.toList es' 0) :
  (setObj l.bV (.map ents' es'.length)).run cx.P w = .ok () { w with heap:=w.heap.setIfInBounds l.bV (.map ents' es'.length) } /\
  Inv cx ρ (cJ σ m (some (.map false es'))) n { w with heap:=w.heap.setIfInBounds l.bV (.map ents' es'.length) }/\bZ cx ρ ρ σ (cJ σ m (some (.map false es'))) w { w with heap:=w.heap.setIfInBounds l.bV (.map ents' es'.length) }:=by
 have hlt:l.bV<w.heap.size:=(Array.getElem?_eq_some_iff.1 ho).1;refine ⟨by simp[setObj,Sem.run,ho],?_⟩;exact hI.AF0 (w':={ w with heap:=w.heap.setIfInBounds l.bV (.map ents' es'.length) }) (al _) hm hl hL rfl (.map ents' es'.length) (.map false es') rfl rfl rfl (by simp) (by simp[hlt]) (λb hne=>by simp[Array.getElem?_setIfInBounds_ne (Ne.symm hne)]) (NW ho (λ_ _ _ e=>by cases e)) hE.box
variable {vx:Value}{σ':Nat->Option bL}
def BIY (hI:Inv cx ρ σ n w) {t:TypeId} {x i v:D} {vi vv:Value} (hx:Rd w (bY cx ρ σ) ρ x vx) (hi:Rd w (bY cx ρ σ) ρ i vi) (hv:Rd w (bY cx ρ σ) ρ v vv) (h:A11 cx.P σ t x i v=some σ') :
  ∃ w',(Instr.mapUpdate t vx vi vv).run cx.P w = .ok () w'/\Inv cx ρ σ' n w'/\bZ cx ρ ρ σ σ' w w':=by
 unfold A11 at h;split at h
 ·rename_i kt et hu;split at h
  ·rename_i kd k m hkk;cases hi with
   | p _ _ hi =>
   cases hi;split at h
   ·rename_i es hkey hm;have hk:=O5 hkey;have hku:=I3 hkk;split at h
    ·rename_i r hf;cases h;obtain ⟨l,ents,hl,hL,ho,hE⟩:=hI.BBW hm;cases hx with
     | map _ l' hl' =>
     rw[hl] at hl';cases hl';have hobj:(getObj l.bV).run cx.P w = .ok (.map ents es.length) w:=by simp[getObj,Sem.run,ho]
     obtain ⟨g1,g2⟩:=rH kd vi hE hf;cases r with
     | none =>
      obtain ⟨s1,s2,s3⟩:=hI.BEW hm hl hL ho (hE.push vi hv);refine ⟨_,?_,s2,s3⟩;simp only[List.length_append,List.length_cons,List.length_nil,Nat.zero_add] at s1;simp only[Instr.mapUpdate,Sem.run_bind,run_underlying hu,Result.andThen_ok,hobj,run_checkKey hku hk,run_findKey hku (g1 rfl),s1];simp
     | some jd =>
      obtain ⟨j,d⟩:=jd;obtain ⟨u,q,hq,hfn,hrd,e,y,q1,q2,q3,q4,q5⟩:=g2 j d rfl;simp only[Nat.zero_add] at hq;subst hq;have hej:ents[j]? = some e:=by rw[<-Array.getElem?_toList];exact q1
      obtain ⟨s1,s2,s3⟩:=hI.BEW (es':=es.set j (vi,v)) hm hl hL ho (hE.set j vi (f:=λe=>{ e with key:=vi,val:=vv }) (λe=>⟨rfl,rfl⟩) (λe _=>hv));refine ⟨_,?_,s2,s3⟩;simp only[List.length_set] at s1;simp only[Instr.mapUpdate,Sem.run_bind,run_underlying hu,Result.andThen_ok,hobj,run_checkKey hku hk,run_findKey hku hfn,hej,Option.map_some,Option.getD_some,AE1 q5,s1];simp
    ·cases h
   ·cases h
  ·cases h
 ·cases h
def BB1 (hI:Inv cx ρ σ n w) {k:Nat} (hk:n<=k) {t:TypeId} {x d:D} (hx:Rd w (bY cx ρ σ) ρ x vx) (h:AVH cx.P σ k t x=some (d,σ')) :
  ∃ v w' ρ',(Instr.range t vx).run cx.P w = .ok v w'/\Inv cx ρ' σ' (k+1) w'/\bZ cx ρ ρ' σ σ' w w'/\Rd w' (bY cx ρ' σ') ρ' d v:=by
 have fin:∀ (o:Obj) (b:bL),(∀ ρ':Nat->Option Loc,(∀ i l,ρ i=some l->ρ' i=some l)->∀ w' own l,(∀ d v,cS w (bY cx ρ σ) d v->cS w' own d v)->gC w' own ρ' l o b)->∃ w' ρ',(newObj o).run cx.P w = .ok w.heap.size w'/\Inv cx ρ' (cJ σ k (some b)) (k+1) w'/\bZ cx ρ ρ' σ (cJ σ k (some b)) w w'/\Rd w' (bY cx ρ' (cJ σ k (some b))) ρ' (.it k) (.pointer (some ⟨w.heap.size,0,none⟩)):=by
  intro o b hb;have hbel:Below w.heap.size w (w.alloc o):=(Below.refl _ _).alloc (al _) _;obtain ⟨h1,h2⟩:=hI.oT (w':=w.alloc o) hk ⟨w.heap.size,0,0,0,1⟩ b hbel (λ_=>⟨al _,by show w.heap.size<(w.heap.push _).size;simp⟩)
   ⟨λ_=>⟨o,by show (w.heap.push _)[w.heap.size]? = _;simp,hb _ (λi l' hi=>by rw[bU _ _ (λe=>by have:=(hI.new i l' hi).1;omega)];exact hi) _ _ _ λd v hd=>hd.mono (λb _ hlt=>hbel.block b hlt) hbel.size λb hlt hn hc=>by
    rcases hc with hc|⟨_,rfl⟩
    ·simp_all
    ·exact Nat.lt_irrefl _ hlt⟩,λh=>by simp at h⟩
  refine ⟨_,_,rfl,h1,h2,?_⟩;exact .it k ⟨w.heap.size,0,0,0,1⟩ (by simp)
 unfold AVH at h;split at h
 ·rename_i kt et es hu;cases h;cases hx with
  | p _ _ hx =>
  obtain ⟨b,ents,rfl,_,ho,hE⟩:=AVG (ρ:=ρ) hx;have ho':w.heap[b]? = some (.map ents es.length):=by simpa [s0] using ho
  have hobj:(getObj b).run cx.P w = .ok (.map ents es.length) w:=by simp[getObj,Sem.run,ho']
  obtain ⟨w',ρ',f1,f2,f3,f4⟩:=fin (.mapIter (some b) es.length #[] es.length) (.cF es es.length [] es.length) (λρ' hρ w' own l2 hk=>by
   have:=gC.cF (w:=w') (own:=own) (ρ:=ρ') (l:=l2) es b es.length [] es.length (hk _ _ hx);simpa using this)
  refine ⟨_,w',ρ',?_,f2,f3,f4⟩;simp only[Instr.range,Sem.run_bind,run_underlying hu,Result.andThen_ok,hobj,Sem.run_pure,f1]
 ·cases h
def BB0 (hI:Inv cx ρ σ n w) {k:Nat} (hk:n<=k) {t:TypeId} {r:Option Value} (hr:∀ v,r=some v->(∃ kt et,cx.P.underlying t=some (.map kt et))/\∃ j q,v = .int j q) :
  ∃ v w' ρ',(Instr.makeMap t r).run cx.P w = .ok v w'/\Inv cx ρ' (cJ σ k (some (.map false []))) (k+1) w'/\bZ cx ρ ρ' σ (cJ σ k (some (.map false []))) w w'/\Rd w' (bY cx ρ' (cJ σ k (some (.map false [])))) ρ' (.map k) v:=by
 have hbel:Below w.heap.size w (w.alloc (.map #[] 0)):=(Below.refl _ _).alloc (al _) _;obtain ⟨h1,h2⟩:=hI.oT (w':=w.alloc (.map #[] 0)) hk ⟨w.heap.size,0,0,0,1⟩ (.map false []) hbel (λ_=>⟨al _,by show w.heap.size<(w.heap.push _).size;simp⟩)
  ⟨λ_=>⟨.map #[] 0,by show (w.heap.push _)[w.heap.size]? = _;simp,.map false [] #[] rfl (λi h=>by simp at h)⟩,λh=>by simp at h⟩
 refine ⟨.map (some w.heap.size),_,_,?_,h1,h2,.map k ⟨w.heap.size,0,0,0,1⟩ (by simp)⟩;cases r with
 | none=>simp[Instr.makeMap]
 | some v =>
  obtain ⟨⟨kt,et,hu⟩,j,q,rfl⟩:=hr v rfl;simp[Instr.makeMap,run_underlying hu,asInt,asIntOf]
def BHS (hI:Inv cx ρ σ n w) {x d:D} (hx:Rd w (bY cx ρ σ) ρ x vx) (h:A8H σ x=some d):∃ v,(Instr.entry vx).run cx.P w = .ok v w/\Rd w (bY cx ρ σ) ρ d v:=by
 unfold A8H at h;split at h
 ·split at h
  ·rename_i es since seen last hσ;split at h
   ·rename_i i hlast hseen;simp only[ah] at hlast;simp only[aa] at h;obtain ⟨e,he,rfl⟩:=h;obtain ⟨li,hli,hLi,oi,hoi,hbi⟩:=hI.loc hσ (λ_ _ e=>by cases e);cases hbi with
    | rows _ _ _ hr=>simp[fJ] at hr
    | cF _ b _ _ _ hmp =>
    cases hx with
    | it _ l' hl' =>
    rw[hli] at hl';cases hl';cases hmp with
    | mp _ _ ents f h1 h2 h3 h4 h5 h6 =>
    obtain ⟨hil,hie⟩:=List.getElem?_eq_some_iff.1 he;obtain ⟨hxi,a2,a3⟩:=h5 i hil;have a4:=h6 i hil;rw[hie] at a2 a4;have hback:seen.toArray.back? = some i:=by rw[<-hseen];simp
    have hfind:ents.find? (λe=>e.born == i)=some (f i):=by
     rw[Array.find?_eq_some_iff_getElem];have hsz:i<ents.size:=(Array.getElem?_eq_some_iff.1 hxi).1;refine ⟨by simp[a3],i,hsz,?_,λq hq=>?_⟩
     ·rw[Array.getElem?_eq_getElem hsz] at hxi;exact Option.some.inj hxi
     ·obtain ⟨hyq,b2,b3⟩:=h5 q (by omega);have hqs:q<ents.size:=by omega
      rw[Array.getElem?_eq_getElem hqs] at hyq;have:=Option.some.inj hyq;rw[this];simp[b3];omega
    refine ⟨.tuple #[(f i).key,(f i).val],?_,?_⟩
    ·simp[Instr.entry,getObj,Sem.run,hoi,h3,hback,hlast,hfind]
    ·rw[a2];refine .p _ _ (.cB _ _ rfl λj hj=>?_)
     match j,hj with
     | 0,_=>exact .v _
     | 1,_=>exact a4
   ·cases h
  ·cases h
 ·cases h
end
def Z3 (P:Program) (σ:Nat->Option bL) (k:Nat) (t:TypeId) (len cap:D):Option (D×(Nat->Option bL)) :=
 match pM P t with
 | some e =>
  match tsz? P e,tby? P e,tz? P e,len,cap with
  | some z,some by_,some zv,.p (.v (.int _ a)),.p (.v (.int _ b)) =>
   if (a=b\/a=0)/\0<=b/\b*by_<=140737488355328/\b<=140737488355328/\0<z/\zv.cells.size=z/\zv.cells.all Value.oneCell'=true then
    some (.own k,cJ σ k (some (.arr false z (List.replicate a.toNat (zv.cells.toList.map .v)))))
   else none
  | _,_,_,_,_=>none
 | none=>none
section
variable {cx : Cx} {ρ : Nat -> Option Loc} {σ : Nat -> Option bL} {n : Nat} {w : World}
variable {σ':Nat->Option bL}
def BBV (hI:Inv cx ρ σ n w) {k:Nat} (hk:n<=k) {t:TypeId} {a b d:D} {va vb:Value} (ha:Rd w (bY cx ρ σ) ρ a va) (hb:Rd w (bY cx ρ σ) ρ b vb) (h:Z3 cx.P σ k t a b=some (d,σ')) :
  ∃ v w' ρ',(Instr.makeSlice t va vb).run cx.P w = .ok v w'/\Inv cx ρ' σ' (k+1) w'/\bZ cx ρ ρ' σ σ' w w'/\Rd w' (bY cx ρ' σ') ρ' d v:=by
 unfold Z3 at h;split at h
 ·rename_i e hel;have hu:=jV hel;split at h
  ·rename_i z by_ zv ka x kb y hz hby hzv;split at h
   ·rename_i hok;obtain ⟨hab,h0,hbytes,hmax,hz0,hzc,hz1⟩:=hok;cases h;cases ha with
    | p _ _ ha =>
    cases ha;cases hb with
    | p _ _ hb =>
    cases hb;have hx0:0<=x:=by rcases hab with rfl|rfl<;>omega
    have hxy:x<=y:=by rcases hab with rfl|rfl<;>omega
    obtain ⟨i,hi,hi1,hi2,hi3⟩:=AD8 hz hby hzv;have hrun:=run_make (P:=cx.P) w t e i zv hu hi hi3 ka kb x y hx0 hxy (by rw[hi2];rw[Int.mul_comm];omega) (by omega);rw[hi1] at hrun;obtain ⟨m,hm⟩:∃ m,x.toNat=m:=⟨_,rfl⟩
    obtain ⟨c,hc⟩:∃ c,y.toNat=c:=⟨_,rfl⟩
    rw[hm,hc] at hrun;rw[hm];have hmc:m<=c:=by omega
    have hbel:Below w.heap.size w (w.alloc (.cells (madeCells zv.cells (c*z)) e)):=(Below.refl _ _).alloc (al _) _;by_cases hc0:c=0
    ·subst hc0;have hm0:m=0:=by omega
     subst hm0;have hI':Inv cx ρ σ n (w.alloc (.cells (madeCells zv.cells (0*z)) e)):=hI.grow hbel (al _);obtain ⟨g1,g2⟩:=hI'.oT hk ⟨0,z,0,e,0⟩ (.arr false z []) (Below.refl _ _) (λh=>by simp at h) ⟨λh=>by simp at h,λ_=>⟨_,_,rfl⟩⟩;exact ⟨_,_,_,hrun,g1,(bZ.pV hbel).trans' g2,.eW k ⟨0,z,0,e,0⟩ _ (by simp) rfl⟩
    ·have hcell:∀ p,p<c*z->(madeCells zv.cells (c*z))[p]? = some (zv.cells[p % z]'(by rw[hzc];exact Nat.mod_lt _ hz0)):=by
      intro p hp;simp only[madeCells,Array.getElem?_map,Array.getElem?_range,hp,if_true,Option.map_some,Option.some.injEq,hzc];exact getElem!_pos zv.cells _ _
     have hsize:(madeCells zv.cells (c*z)).size=c*z:=by simp[madeCells]
     have hB:AGZ w (bY cx ρ σ) ρ ⟨w.heap.size,z,c,e,m⟩ (bK (List.replicate m (zv.cells.toList.map .v))) (madeCells zv.cells (c*z)):=by
      refine ⟨hsize,hz0,by simp;omega,by simpa using hmc,by simp,λr hr=>?_,λi j hi hj=>?_,λp v hp=>?_⟩
      ·simp only[bK,List.map_replicate] at hr;simp_all
      ·simp at hi;have hrow:(bK (List.replicate m (zv.cells.toList.map T.v)))[i]'(by simpa using hi)=(zv.cells.toList.map T.v).map .p:=by simp[bK]
       simp only[hrow] at hj ⊢;have hj':j<z:=by simpa [hzc] using hj
       have hlt:i*z+j<c*z:=by have:=kR (m:=1) (j:=j) (show i<c by omega) (by omega:j+1<=z);omega
       refine ⟨_,hcell _ hlt,?_⟩;have hm:(i*z+j) % z=j:=by rw[Nat.mul_comm,Nat.mul_add_mod,Nat.mod_eq_of_lt hj']
       simp only[hm,List.getElem_map,Array.getElem_toList];exact .p _ _ (.v _)
      ·have hp':p<c*z:=by rw[<-hsize];exact (Array.getElem?_eq_some_iff.1 hp).1
       rw[hcell p hp'] at hp;cases hp;exact Array.all_eq_true.1 hz1 _ _
     obtain ⟨g1,g2⟩:=hI.oT (w':=w.alloc (.cells (madeCells zv.cells (c*z)) e)) hk ⟨w.heap.size,z,c,e,m⟩ (.arr false z (List.replicate m (zv.cells.toList.map .v))) hbel (λ_=>⟨al _,by show w.heap.size<(w.heap.push _).size;simp⟩)
      ⟨λ_=>⟨.cells (madeCells zv.cells (c*z)) e,by show (w.heap.push _)[w.heap.size]? = _;simp,(gC.rows (l:=⟨w.heap.size,z,c,e,m⟩) _ _ _ rfl (λ_ _ _ e=>by cases e;rfl) hB).mono (λb _ hlt=>hbel.block b hlt) hbel.size (λb hb hn hc=>by
        rcases hc with hc|⟨_,rfl⟩
        ·simp_all
        ·exact Nat.lt_irrefl _ hb) (λi l' hi=>by rw[bU _ _ (λe=>by have:=(hI.new i l' hi).1;omega)];exact hi)⟩,λh=>absurd h (by show ¬ m+c=0;omega)⟩
     refine ⟨_,_,_,hrun,g1,g2,?_⟩;exact .own k ⟨w.heap.size,z,c,e,m⟩ (by simp) (by show 0<m+c;omega) hmc (by show c<=maxLen;unfold maxLen;omega)
   ·cases h
  ·cases h
 ·cases h
end
end Go.Pv
