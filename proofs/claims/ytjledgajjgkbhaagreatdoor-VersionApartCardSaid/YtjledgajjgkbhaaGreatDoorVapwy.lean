/-
  The pure evaluator, part y: maps and slices that are made, maps that are written.
-/
import Derived.Test.YtjledgajjgkbhaaGreatDoorVapwk
import Derived.Maps.RangeRun
import Derived.Laws.MakeOwn
set_option linter.defProp false
set_option linter.unusedSimpArgs false
namespace Go.Pv
open Go Go.RowKit Go.MapKept
def fN (es:List (Value×D)) (r:Option (Nat×D)) (k:Value) (d:D):List (Value×D) :=
 match r with
 | some (i,_)=>es.set i (k,d)
 | none=>es++[(k,d)]
def ADK (P:Program) (σ:Nat→Option bB) (t:TypeId) (x i v:D):Option (Nat→Option bB) :=
 match P.underlying t with
 | some (.map kt _) =>
  match vI P kt,i,x with
  | some kd,.p (.v k),.map m =>
   match CM kd k,σ m with
   | true,some (.map false es) =>
    match findD kd k es 0 with
    | some r=>some (bY σ m (some (.map false (fN es r k v))))
    | none=>none
   | _,_=>none
  | _,_,_=>none
 | _=>none
def AMB (P:Program) (σ:Nat→Option bB) (t:TypeId) (x i:D):Option (D×(Nat→Option bB)) :=
 match P.underlying t with
 | some (.map kt et) =>
  match vI P kt,i,x,tz? P et with
  | some kd,.p (.v k),.map m,some z =>
   match CM kd k,σ m with
   | true,some (.map false es) =>
    match findD kd k es 0 with
    | some (some (j,d))=>some (KP d (.v (.int .i64 j)),bY σ m (some (.map false (es.set j (k,d)))))
    | some none=>some (KP (.p (.v z)) (.v (.int .i64 es.length)),bY σ m (some (.map false (es++[(k,.p (.v z))]))))
    | none=>none
   | _,_=>none
  | _,_,_,_=>none
 | _=>none
def AMG (σ:Nat→Option bB) (x s v:D):Option (Nat→Option bB) :=
 match x,s with
 | .map m,.p (.v (.int _ j)) =>
  match σ m with
  | some (.map false es) =>
   match 0≤j&&j<es.length,es[j.toNat]? with
   | true,some e=>some (bY σ m (some (.map false (es.set j.toNat (e.1,v)))))
   | _,_=>none
  | _=>none
 | _,_=>none
def AMF (P:Program) (σ:Nat→Option bB) (k:Nat) (t:TypeId) (d:D):Option (D×(Nat→Option bB)) :=
 match P.underlying t,d with
 | some (.map _ _),.map m =>
  match σ m with
  | some (.map _ es)=>some (.it k,bY σ k (some (.nJ (some m) es.length [] es.length)))
  | _=>none
 | some (.map _ _),.p (.v (.map none))=>some (.it k,bY σ k (some (.nJ none 0 [] 0)))
 | some (.map _ _),.p (.mp es)=>some (.it k,bY σ k (some (.cD es es.length [] es.length)))
 | _,_=>none
def AHB (σ:Nat→Option bB) (d:D):Option D :=
 match d with
 | .it k =>
  match σ k with
  | some (.nJ (some m) _ seen last) =>
   match σ m with
   | some (.map _ es) =>
    match decide (es.length=last),seen.getLast? with
    | true,some i=>(es[i]?).map fun e=>match e.2 with
     | .p u=>.p (.bZ [.v e.1,u])
     | d=>.bZ [.p (.v e.1),d]
    | _,_=>none
   | _=>none
  | some (.cD es _ seen last) =>
   match decide (es.length=last),seen.getLast? with
   | true,some i=>(es[i]?).map fun e=>.p (.bZ [.v e.1,e.2])
   | _,_=>none
  | _=>none
 | _=>none
section
variable {cx : Cx} {ρ : Nat → Option Loc} {σ : Nat → Option bB} {n : Nat} {w : World} {own : Nat → Prop}
theorem XU {kd:TypeDesc} {k k':Value} (h:Instr.sameNow kd k k'=some true):Instr.sameBits 10000 k' k=true:=by
 unfold Instr.sameNow at h
 split at h
 ·split at h
  ·rename_i hk
   subst hk
   simp at h
   subst h
   simp[Instr.sameBits]
  ·cases h
 ·simp only[Option.some.injEq] at h
  have:=(bytes_beq _ _).1 h
  subst this
  simp only[Instr.sameBits]
  omega
 ·simp at h
  subst h
  simp[Instr.sameBits]
 ·cases h
theorem FU {P:Program} {kd:TypeDesc} {k k':Value} (h:Instr.sameNow kd k k'=some true):(Instr.keyThatStays k' k).run P w = .ok k w:=by
 simp[Instr.keyThatStays,XU h]
theorem BX.set {es:List (Value×D)} {ents:Array MapEntry} (h:BX w own ρ ents.toList es 0) (j:Nat) (k:Value) {d:D} {f:MapEntry→MapEntry} (hf:∀ e,(f e).key=k∧(f e).born=e.born) (hd:∀ e,ents[j]? = some e→Rd w own ρ d (f e).val) :
  BX w own ρ (ents.modify j f).toList (es.set j (k,d)) 0:=by
 refine ⟨by simpa using h.1,fun i hi=>?_⟩
 obtain ⟨e,h1,h2,h3,h4⟩:=h.2 i (by simpa using hi)
 have hsz:i<ents.size:=by have:=(List.getElem?_eq_some_iff.1 h1).1;simpa using this
 have h1':ents[i]? = some e:=by rw[←Array.getElem?_toList];exact h1
 by_cases e':j=i
 ·subst e'
  refine ⟨f e,?_,?_,?_,?_⟩
  ·rw[Array.getElem?_toList,Array.getElem?_modify,if_pos rfl,h1'];rfl
  ·simp[(hf e).1]
  ·rw[(hf e).2];exact h3
  ·simpa using hd e h1'
 ·refine ⟨e,?_,?_,h3,?_⟩
  ·rw[Array.getElem?_toList,Array.getElem?_modify,if_neg e'];exact h1'
  ·rw[List.getElem_set_ne e'];exact h2
  ·rw[List.getElem_set_ne e'];exact h4
theorem BX.push {es:List (Value×D)} {ents:Array MapEntry} (h:BX w own ρ ents.toList es 0) (k:Value) {d:D} {v:Value} (hd:Rd w own ρ d v):BX w own ρ (ents.push { key:=k,val:=v,born:=es.length }).toList (es++[(k,d)]) 0:=by
 have hs:ents.size=es.length:=by simpa using h.1
 refine ⟨by simp[hs],fun i hi=>?_⟩
 simp at hi
 by_cases e:i<es.length
 ·obtain ⟨x,h1,h2,h3,h4⟩:=h.2 i e
  simp_all
 ·have e':i=es.length:=by omega
  simp_all
theorem BX.box {es:List (Value×D)} {ents:Array MapEntry} {l:Loc} (h:BX w own ρ ents.toList es 0):dV w own ρ l (.map ents es.length) (.map false es) :=
 .map false es ents (by simpa using h.1) fun i hi=>by
  obtain ⟨e,a,b,c,d⟩:=h.2 i hi
  simp_all
theorem Inv.QC (hI:Inv cx ρ σ n w) {m:Nat} {es es':List (Value×D)} (hm:σ m=some (.map false es)) {l:Loc} (hl:ρ m=some l) (hL:0<l.L+l.C) {ents ents':Array MapEntry} (ho:w.heap[l.bJ]? = some (.map ents es.length)) (hE:BX w (bL cx ρ σ) ρ ents'.toList es' 0) :
  (setObj l.bJ (.map ents' es'.length)).run cx.P w = .ok () { w with heap:=w.heap.setIfInBounds l.bJ (.map ents' es'.length) } ∧
  Inv cx ρ (bY σ m (some (.map false es'))) n { w with heap:=w.heap.setIfInBounds l.bJ (.map ents' es'.length) }∧bO cx ρ ρ σ (bY σ m (some (.map false es'))) w { w with heap:=w.heap.setIfInBounds l.bJ (.map ents' es'.length) }:=by
 have hlt:l.bJ<w.heap.size:=(Array.getElem?_eq_some_iff.1 ho).1
 refine ⟨by simp[setObj,Sem.run,ho],?_⟩
 exact hI.QB (w':={ w with heap:=w.heap.setIfInBounds l.bJ (.map ents' es'.length) }) (Nat.le_refl _) hm hl hL rfl (.map ents' es'.length) (.map false es') rfl rfl rfl (by simp) (by simp[hlt]) (fun b hne=>by simp[Array.getElem?_setIfInBounds_ne (Ne.symm hne)]) (IU ho (fun _ _ _ e=>by cases e)) hE.box
theorem AMH (hI:Inv cx ρ σ n w) {t:TypeId} {x i v:D} {vx vi vv:Value} {σ':Nat→Option bB} (hx:Rd w (bL cx ρ σ) ρ x vx) (hi:Rd w (bL cx ρ σ) ρ i vi) (hv:Rd w (bL cx ρ σ) ρ v vv) (h:ADK cx.P σ t x i v=some σ') :
  ∃ w',(Instr.mapUpdate t vx vi vv).run cx.P w = .ok () w'∧Inv cx ρ σ' n w'∧bO cx ρ ρ σ σ' w w':=by
 unfold ADK at h
 split at h
 ·rename_i kt et hu
  split at h
  ·rename_i kd k m hkk
   cases hi with
   | p _ _ hi =>
   cases hi
   split at h
   ·rename_i es hkey hm
    have hk:=yA hkey
    have hku:=vJ hkk
    split at h
    ·rename_i r hf
     cases h
     obtain ⟨l,ents,hl,hL,ho,hE⟩:=hI.OR hm
     cases hx with
     | map _ l' hl' =>
     rw[hl] at hl';cases hl'
     have hobj:(getObj l.bJ).run cx.P w = .ok (.map ents es.length) w:=by simp[getObj,Sem.run,ho]
     obtain ⟨g1,g2⟩:=l7 kd vi hE hf
     cases r with
     | none =>
      obtain ⟨s1,s2,s3⟩:=hI.QC hm hl hL ho (hE.push vi hv)
      refine ⟨_,?_,s2,s3⟩
      simp only[List.length_append,List.length_cons,List.length_nil,Nat.zero_add] at s1
      simp only[Instr.mapUpdate,Sem.run_bind,run_underlying hu,Result.andThen_ok,hobj,run_checkKey hku hk,run_findKey hku (g1 rfl),s1]
      simp
     | some jd =>
      obtain ⟨j,d⟩:=jd
      obtain ⟨u,q,hq,hfn,hrd,e,y,q1,q2,q3,q4,q5⟩:=g2 j d rfl
      simp only[Nat.zero_add] at hq
      subst hq
      have hej:ents[j]? = some e:=by rw[←Array.getElem?_toList];exact q1
      obtain ⟨s1,s2,s3⟩:=hI.QC (es':=es.set j (vi,v)) hm hl hL ho (hE.set j vi (f:=fun e=>{ e with key:=vi,val:=vv }) (fun e=>⟨rfl,rfl⟩) (fun e _=>hv))
      refine ⟨_,?_,s2,s3⟩
      simp only[List.length_set] at s1
      simp only[Instr.mapUpdate,Sem.run_bind,run_underlying hu,Result.andThen_ok,hobj,run_checkKey hku hk,run_findKey hku hfn,hej,Option.map_some,Option.getD_some,FU q5,s1]
      simp
    ·cases h
   ·cases h
  ·cases h
 ·cases h
theorem A0A (hI:Inv cx ρ σ n w) {t:TypeId} {x i d:D} {vx vi:Value} {σ':Nat→Option bB} (hx:Rd w (bL cx ρ σ) ρ x vx) (hi:Rd w (bL cx ρ σ) ρ i vi) (h:AMB cx.P σ t x i=some (d,σ')) :
  ∃ v w',(Instr.mapEntry t vx vi).run cx.P w = .ok v w'∧Inv cx ρ σ' n w'∧bO cx ρ ρ σ σ' w w'∧Rd w' (bL cx ρ σ') ρ d v:=by
 unfold AMB at h
 split at h
 ·rename_i kt et hu
  split at h
  ·rename_i kd k m z hkk hz
   cases hi with
   | p _ _ hi =>
   cases hi
   split at h
   ·rename_i es hkey hm
    have hk:=yA hkey
    have hku:=vJ hkk
    obtain ⟨l,ents,hl,hL,ho,hE⟩:=hI.OR hm
    cases hx with
    | map _ l' hl' =>
    rw[hl] at hl';cases hl'
    have hobj:(getObj l.bJ).run cx.P w = .ok (.map ents es.length) w:=by simp[getObj,Sem.run,ho]
    split at h
    ·rename_i j dj hf
     cases h
     obtain ⟨g1,g2⟩:=l7 kd vi hE hf
     obtain ⟨u,q,hq,hfn,hrd,e,y,q1,q2,q3,q4,q5⟩:=g2 j dj rfl
     simp only[Nat.zero_add] at hq
     subst hq
     have hej:ents[j]? = some e:=by rw[←Array.getElem?_toList];exact q1
     have hborn:e.born=j:=by
      obtain ⟨hjl,_⟩:=List.getElem?_eq_some_iff.1 q2
      obtain ⟨e',a1,_,a3,_⟩:=hE.2 j hjl
      simp_all
     obtain ⟨s1,s2,s3⟩:=hI.QC (es':=es.set j (vi,dj)) hm hl hL ho (hE.set j vi (d:=dj) (f:=fun e=>{ e with key:=vi }) (fun e=>⟨rfl,rfl⟩) (fun e' he'=>by rw[hej] at he';cases he';rw[q3];exact hrd))
     refine ⟨_,_,?_,s2,s3,YR (s3.rd hrd) (.v (.int .i64 j))⟩
     simp only[List.length_set] at s1
     simp only[Instr.mapEntry,Sem.run_bind,run_underlying hu,Result.andThen_ok,hobj,run_checkKey hku hk,run_findKey hku hfn,hej,Option.map_some,Option.getD_some,FU q5,s1,hborn]
     simp[goInt]
    ·rename_i hf
     cases h
     obtain ⟨g1,g2⟩:=l7 kd vi hE hf
     obtain ⟨s1,s2,s3⟩:=hI.QC hm hl hL ho (hE.push vi (d:=.p (.v z)) (v:=z) (.p _ _ (.v z)))
     refine ⟨_,_,?_,s2,s3,YR (.p _ _ (.v z)) (.v (.int .i64 es.length))⟩
     simp only[List.length_append,List.length_cons,List.length_nil,Nat.zero_add] at s1
     simp only[Instr.mapEntry,Sem.run_bind,run_underlying hu,Result.andThen_ok,hobj,run_checkKey hku hk,run_findKey hku (g1 rfl),run_zero? w hz,s1]
     simp[goInt]
    ·cases h
   ·cases h
  ·cases h
 ·cases h
theorem A0E (hI:Inv cx ρ σ n w) {t:TypeId} {x s v:D} {vx vs vv:Value} {σ':Nat→Option bB} (hx:Rd w (bL cx ρ σ) ρ x vx) (hs:Rd w (bL cx ρ σ) ρ s vs) (hv:Rd w (bL cx ρ σ) ρ v vv) (h:AMG σ x s v=some σ') :
  ∃ w',(Instr.entryStore t vx vs vv).run cx.P w = .ok () w'∧Inv cx ρ σ' n w'∧bO cx ρ ρ σ σ' w w':=by
 unfold AMG at h
 split at h
 ·rename_i m k j
  cases hs with
  | p _ _ hs =>
  cases hs
  split at h
  ·rename_i es hm
   split at h
   ·rename_i e hj he
    cases h
    simp only[Bool.and_eq_true,decide_eq_true_eq] at hj
    obtain ⟨l,ents,hl,hL,ho,hE⟩:=hI.OR hm
    cases hx with
    | map _ l' hl' =>
    rw[hl] at hl';cases hl'
    have hobj:(getObj l.bJ).run cx.P w = .ok (.map ents es.length) w:=by simp[getObj,Sem.run,ho]
    have hjl:j.toNat<es.length:=by omega
    obtain ⟨x,a1,a2,a3,a4⟩:=hE.2 j.toNat hjl
    have hxj:ents[j.toNat]? = some x:=by rw[←Array.getElem?_toList];exact a1
    have hes:es[j.toNat]=e:=by rw[List.getElem?_eq_getElem hjl] at he;exact Option.some.inj he
    have hfind:ents.findIdx? (fun e=>(e.born:Int) == j)=some j.toNat:=by
     rw[Array.findIdx?_eq_some_iff_getElem]
     have hsz:j.toNat<ents.size:=(Array.getElem?_eq_some_iff.1 hxj).1
     refine ⟨hsz,?_,fun q hq=>?_⟩
     ·rw[Array.getElem?_eq_getElem hsz] at hxj
      cases hxj
      simp[a3];omega
     ·obtain ⟨y,b1,b2,b3,b4⟩:=hE.2 q (by omega)
      have hyq:ents[q]? = some y:=by rw[←Array.getElem?_toList];exact b1
      have hqs:q<ents.size:=by omega
      rw[Array.getElem?_eq_getElem hqs] at hyq
      cases hyq
      simp[b3];omega
    obtain ⟨s1,s2,s3⟩:=hI.QC (es':=es.set j.toNat (e.1,v)) hm hl hL ho (ents':=ents.modify j.toNat fun e=>{ e with val:=vv }) (by
     have hset:=hE.set j.toNat e.1 (d:=v) (f:=fun x=>{ x with key:=e.1,val:=vv }) (fun e=>⟨rfl,rfl⟩) (fun _ _=>hv)
     have hmod:(ents.modify j.toNat fun x=>{ x with key:=e.1,val:=vv })=ents.modify j.toNat fun x=>{ x with val:=vv }:=by
      apply Array.ext_getElem?
      intro q
      rw[Array.getElem?_modify,Array.getElem?_modify]
      by_cases hq:j.toNat=q
      ·simp_all
      ·simp_all
     rw[hmod] at hset
     exact hset)
    refine ⟨_,?_,s2,s3⟩
    simp only[List.length_set] at s1
    simp only[Instr.entryStore,Sem.run_bind,hobj,Result.andThen_ok,asInt,asIntOf,Sem.run_pure,hfind,s1]
    simp
   ·cases h
  ·cases h
 ·cases h
theorem A0D (hI:Inv cx ρ σ n w) {k:Nat} (hk:n≤k) {t:TypeId} {x d:D} {vx:Value} {σ':Nat→Option bB} (hx:Rd w (bL cx ρ σ) ρ x vx) (h:AMF cx.P σ k t x=some (d,σ')) :
  ∃ v w' ρ',(Instr.range t vx).run cx.P w = .ok v w'∧Inv cx ρ' σ' (k+1) w'∧bO cx ρ ρ' σ σ' w w'∧Rd w' (bL cx ρ' σ') ρ' d v:=by
 have fin:∀ (o:Obj) (b:bB),(∀ ρ':Nat→Option Loc,(∀ i l,ρ i=some l→ρ' i=some l)→∀ w' own l,(∀ d v,cN w (bL cx ρ σ) d v→cN w' own d v)→dV w' own ρ' l o b)→∃ w' ρ',(newObj o).run cx.P w = .ok w.heap.size w'∧Inv cx ρ' (bY σ k (some b)) (k+1) w'∧bO cx ρ ρ' σ (bY σ k (some b)) w w'∧Rd w' (bL cx ρ' (bY σ k (some b))) ρ' (.it k) (.pointer (some ⟨w.heap.size,0,none⟩)):=by
  intro o b hb
  have hbel:Below w.heap.size w (w.alloc o):=(Below.refl _ _).alloc (Nat.le_refl _) _
  obtain ⟨h1,h2⟩:=hI.lW (w':=w.alloc o) hk ⟨w.heap.size,0,0,0,1⟩ b hbel (fun _=>⟨Nat.le_refl _,by show w.heap.size<(w.heap.push _).size;simp⟩)
   ⟨fun _=>⟨o,by show (w.heap.push _)[w.heap.size]? = _;simp,hb _ (fun i l' hi=>by rw[bK _ _ (fun e=>by have:=(hI.new i l' hi).1;omega)];exact hi) _ _ _ fun d v hd=>hd.mono (fun b _ hlt=>hbel.block b hlt) hbel.size fun b hlt hn hc=>by
    rcases hc with hc|⟨_,rfl⟩
    ·simp_all
    ·exact Nat.lt_irrefl _ hlt⟩,fun h=>by simp at h⟩
  refine ⟨_,_,rfl,h1,h2,?_⟩
  exact .it k ⟨w.heap.size,0,0,0,1⟩ (by simp)
 unfold AMF at h
 split at h
 ·rename_i kt et m hu
  split at h
  ·rename_i _ es hm
   cases h
   obtain ⟨l,ents,hl,hL,ho,hE⟩:=hI.OR hm
   cases hx with
   | map _ l' hl' =>
   rw[hl] at hl';cases hl'
   have hobj:(getObj l.bJ).run cx.P w = .ok (.map ents es.length) w:=by simp[getObj,Sem.run,ho]
   obtain ⟨w',ρ',f1,f2,f3,f4⟩:=fin (.mapIter (some l.bJ) es.length #[] es.length) (.nJ (some m) es.length [] es.length) (fun ρ' hρ w' own l2 _=>by
    have:=dV.nJ (w:=w') (own:=own) (ρ:=ρ') (l:=l2) m l es.length [] es.length (hρ _ _ hl)
    simpa using this)
   refine ⟨_,w',ρ',?_,f2,f3,f4⟩
   simp only[Instr.range,Sem.run_bind,run_underlying hu,Result.andThen_ok,hobj,Sem.run_pure,f1]
  ·cases h
 ·rename_i kt et hu
  cases h
  cases hx with
  | p _ _ hx =>
  cases hx
  obtain ⟨w',ρ',f1,f2,f3,f4⟩:=fin (.mapIter none 0 #[] 0) (.nJ none 0 [] 0) (fun ρ' hρ w' own l2 _=>.sE)
  refine ⟨_,w',ρ',?_,f2,f3,f4⟩
  simp only[Instr.range,Sem.run_bind,run_underlying hu,Result.andThen_ok,Sem.run_pure,f1]
 ·rename_i kt et es hu
  cases h
  cases hx with
  | p _ _ hx =>
  obtain ⟨b,ents,rfl,_,ho,hE⟩:=AME (ρ:=ρ) hx
  have ho':w.heap[b]? = some (.map ents es.length):=by simpa [qX] using ho
  have hobj:(getObj b).run cx.P w = .ok (.map ents es.length) w:=by simp[getObj,Sem.run,ho']
  obtain ⟨w',ρ',f1,f2,f3,f4⟩:=fin (.mapIter (some b) es.length #[] es.length) (.cD es es.length [] es.length) (fun ρ' hρ w' own l2 hk=>by
   have:=dV.cD (w:=w') (own:=own) (ρ:=ρ') (l:=l2) es b es.length [] es.length (hk _ _ hx)
   simpa using this)
  refine ⟨_,w',ρ',?_,f2,f3,f4⟩
  simp only[Instr.range,Sem.run_bind,run_underlying hu,Result.andThen_ok,hobj,Sem.run_pure,f1]
 ·cases h
theorem A0C (hI:Inv cx ρ σ n w) {k:Nat} (hk:n≤k) {t:TypeId} {r:Option Value} (hr:∀ v,r=some v→(∃ kt et,cx.P.underlying t=some (.map kt et))∧∃ j q,v = .int j q) :
  ∃ v w' ρ',(Instr.makeMap t r).run cx.P w = .ok v w'∧Inv cx ρ' (bY σ k (some (.map false []))) (k+1) w'∧bO cx ρ ρ' σ (bY σ k (some (.map false []))) w w'∧Rd w' (bL cx ρ' (bY σ k (some (.map false [])))) ρ' (.map k) v:=by
 have hbel:Below w.heap.size w (w.alloc (.map #[] 0)):=(Below.refl _ _).alloc (Nat.le_refl _) _
 obtain ⟨h1,h2⟩:=hI.lW (w':=w.alloc (.map #[] 0)) hk ⟨w.heap.size,0,0,0,1⟩ (.map false []) hbel (fun _=>⟨Nat.le_refl _,by show w.heap.size<(w.heap.push _).size;simp⟩)
  ⟨fun _=>⟨.map #[] 0,by show (w.heap.push _)[w.heap.size]? = _;simp,.map false [] #[] rfl (fun i h=>by simp at h)⟩,fun h=>by simp at h⟩
 refine ⟨.map (some w.heap.size),_,_,?_,h1,h2,.map k ⟨w.heap.size,0,0,0,1⟩ (by simp)⟩
 cases r with
 | none=>simp[Instr.makeMap]
 | some v =>
  obtain ⟨⟨kt,et,hu⟩,j,q,rfl⟩:=hr v rfl
  simp[Instr.makeMap,run_underlying hu,asInt,asIntOf]
theorem A4U (hI:Inv cx ρ σ n w) {x d:D} {vx:Value} (hx:Rd w (bL cx ρ σ) ρ x vx) (h:AHB σ x=some d):∃ v,(Instr.entry vx).run cx.P w = .ok v w∧Rd w (bL cx ρ σ) ρ d v:=by
 unfold AHB at h
 split at h
 ·split at h
  ·rename_i m since seen last hσ
   split at h
   ·rename_i _ es hm
    split at h
    ·rename_i i hlast hseen
     simp only[decide_eq_true_eq] at hlast
     simp only[Option.map_eq_some_iff] at h
     obtain ⟨e,he,rfl⟩:=h
     obtain ⟨li,hli,hLi,oi,hoi,hbi⟩:=hI.loc hσ (fun _ _ e=>by cases e)
     obtain ⟨l,ents,hl,hL,ho,hE⟩:=hI.OR hm
     cases hbi with
     | rows _ _ _ hr=>simp[eC] at hr
     | nJ _ lm _ _ _ hlm =>
     rw[hl] at hlm;cases hlm
     cases hx with
     | it _ l' hl' =>
     rw[hli] at hl';cases hl'
     obtain ⟨hil,hie⟩:=List.getElem?_eq_some_iff.1 he
     obtain ⟨x,a1,a2,a3,a4⟩:=hE.2 i hil
     rw[hie] at a2 a4
     have hxi:ents[i]? = some x:=by rw[←Array.getElem?_toList];exact a1
     have hback:seen.toArray.back? = some i:=by rw[←hseen];simp
     have hfind:ents.find? (fun e=>e.born == i)=some x:=by
      rw[Array.find?_eq_some_iff_getElem]
      have hsz:i<ents.size:=(Array.getElem?_eq_some_iff.1 hxi).1
      refine ⟨by simp[a3],i,hsz,?_,fun q hq=>?_⟩
      ·simp_all
      ·obtain ⟨y,b1,b2,b3,b4⟩:=hE.2 q (by omega)
       have hyq:ents[q]? = some y:=by rw[←Array.getElem?_toList];exact b1
       have hqs:q<ents.size:=by omega
       rw[Array.getElem?_eq_getElem hqs] at hyq
       cases hyq
       simp[b3];omega
     refine ⟨.tuple #[x.key,x.val],?_,?_⟩
     ·simp[Instr.entry,getObj,Sem.run,hoi,ho,hback,hlast,hfind]
     ·rw[a2]
      obtain ⟨e1,e2⟩:=e
      have gen:∀ d,Rd w (bL cx ρ σ) ρ d x.val→Rd w (bL cx ρ σ) ρ (.bZ [.p (.v e1),d]) (.tuple #[e1,x.val]):=fun d hd=>.bZ _ _ rfl fun i hi=>by
       match i,hi with
       | 0,_=>exact .p _ _ (.v _)
       | 1,_=>exact hd
      simp only at a4 ⊢
      split
      ·cases a4 with
       | p _ _ a4 =>
       refine .p _ _ (.bZ _ _ rfl fun i hi=>?_)
       match i,hi with
       | 0,_=>exact .v _
       | 1,_=>exact a4
      ·simp_all
    ·cases h
   ·cases h
  ·rename_i es since seen last hσ
   split at h
   ·rename_i i hlast hseen
    simp only[decide_eq_true_eq] at hlast
    simp only[Option.map_eq_some_iff] at h
    obtain ⟨e,he,rfl⟩:=h
    obtain ⟨li,hli,hLi,oi,hoi,hbi⟩:=hI.loc hσ (fun _ _ e=>by cases e)
    cases hbi with
    | rows _ _ _ hr=>simp[eC] at hr
    | cD _ b _ _ _ hmp =>
    cases hx with
    | it _ l' hl' =>
    rw[hli] at hl';cases hl'
    cases hmp with
    | mp _ _ ents f h1 h2 h3 h4 h5 h6 =>
    obtain ⟨hil,hie⟩:=List.getElem?_eq_some_iff.1 he
    obtain ⟨hxi,a2,a3⟩:=h5 i hil
    have a4:=h6 i hil
    rw[hie] at a2 a4
    have hback:seen.toArray.back? = some i:=by rw[←hseen];simp
    have hfind:ents.find? (fun e=>e.born == i)=some (f i):=by
     rw[Array.find?_eq_some_iff_getElem]
     have hsz:i<ents.size:=(Array.getElem?_eq_some_iff.1 hxi).1
     refine ⟨by simp[a3],i,hsz,?_,fun q hq=>?_⟩
     ·rw[Array.getElem?_eq_getElem hsz] at hxi;exact Option.some.inj hxi
     ·obtain ⟨hyq,b2,b3⟩:=h5 q (by omega)
      have hqs:q<ents.size:=by omega
      rw[Array.getElem?_eq_getElem hqs] at hyq
      have:=Option.some.inj hyq
      rw[this]
      simp[b3];omega
    refine ⟨.tuple #[(f i).key,(f i).val],?_,?_⟩
    ·simp[Instr.entry,getObj,Sem.run,hoi,h3,hback,hlast,hfind]
    ·rw[a2]
     refine .p _ _ (.bZ _ _ rfl fun j hj=>?_)
     match j,hj with
     | 0,_=>exact .v _
     | 1,_=>exact a4
   ·cases h
  ·cases h
 ·cases h
end
def TB (P:Program) (σ:Nat→Option bB) (k:Nat) (t:TypeId) (len cap:D):Option (D×(Nat→Option bB)) :=
 match l6 P t with
 | some e =>
  match tsz? P e,tby? P e,tz? P e,len,cap with
  | some z,some by_,some zv,.p (.v (.int _ a)),.p (.v (.int _ b)) =>
   if (a=b∨a=0)∧0≤b∧b*by_≤140737488355328∧b≤140737488355328∧0<z∧zv.cells.size=z∧zv.cells.all Value.oneCell'=true then
    some (.own k,bY σ k (some (.arr false z (List.replicate a.toNat (zv.cells.toList.map .v)))))
   else none
  | _,_,_,_,_=>none
 | none=>none
section
variable {cx : Cx} {ρ : Nat → Option Loc} {σ : Nat → Option bB} {n : Nat} {w : World}
theorem AZ8 (hI:Inv cx ρ σ n w) {k:Nat} (hk:n≤k) {t:TypeId} {a b d:D} {va vb:Value} {σ':Nat→Option bB} (ha:Rd w (bL cx ρ σ) ρ a va) (hb:Rd w (bL cx ρ σ) ρ b vb) (h:TB cx.P σ k t a b=some (d,σ')) :
  ∃ v w' ρ',(Instr.makeSlice t va vb).run cx.P w = .ok v w'∧Inv cx ρ' σ' (k+1) w'∧bO cx ρ ρ' σ σ' w w'∧Rd w' (bL cx ρ' σ') ρ' d v:=by
 unfold TB at h
 split at h
 ·rename_i e hel
  have hu:=hU hel
  split at h
  ·rename_i z by_ zv ka x kb y hz hby hzv
   split at h
   ·rename_i hok
    obtain ⟨hab,h0,hbytes,hmax,hz0,hzc,hz1⟩:=hok
    cases h
    cases ha with
    | p _ _ ha =>
    cases ha
    cases hb with
    | p _ _ hb =>
    cases hb
    have hx0:0≤x:=by rcases hab with rfl|rfl<;>omega
    have hxy:x≤y:=by rcases hab with rfl|rfl<;>omega
    obtain ⟨i,hi,hi1,hi2,hi3⟩:=WN hz hby hzv
    have hrun:=run_make (P:=cx.P) w t e i zv hu hi hi3 ka kb x y hx0 hxy (by rw[hi2];rw[Int.mul_comm];omega) (by omega)
    rw[hi1] at hrun
    obtain ⟨m,hm⟩:∃ m,x.toNat=m:=⟨_,rfl⟩
    obtain ⟨c,hc⟩:∃ c,y.toNat=c:=⟨_,rfl⟩
    rw[hm,hc] at hrun
    rw[hm]
    have hmc:m≤c:=by omega
    have hbel:Below w.heap.size w (w.alloc (.cells (madeCells zv.cells (c*z)) e)):=(Below.refl _ _).alloc (Nat.le_refl _) _
    by_cases hc0:c=0
    ·subst hc0
     have hm0:m=0:=by omega
     subst hm0
     have hI':Inv cx ρ σ n (w.alloc (.cells (madeCells zv.cells (0*z)) e)):=hI.grow hbel (Nat.le_refl _)
     obtain ⟨g1,g2⟩:=hI'.lW hk ⟨0,z,0,e,0⟩ (.arr false z []) (Below.refl _ _) (fun h=>by simp at h) ⟨fun h=>by simp at h,fun _=>⟨_,_,rfl⟩⟩
     exact ⟨_,_,_,hrun,g1,(bO.gV hbel).trans' g2,.c0 k ⟨0,z,0,e,0⟩ _ (by simp) rfl⟩
    ·have hcell:∀ p,p<c*z→(madeCells zv.cells (c*z))[p]? = some (zv.cells[p % z]'(by rw[hzc];exact Nat.mod_lt _ hz0)):=by
      intro p hp
      simp only[madeCells,Array.getElem?_map,Array.getElem?_range,hp,if_true,Option.map_some,Option.some.injEq,hzc]
      exact getElem!_pos zv.cells _ _
     have hsize:(madeCells zv.cells (c*z)).size=c*z:=by simp[madeCells]
     have hB:LP w (bL cx ρ σ) ρ ⟨w.heap.size,z,c,e,m⟩ (aU (List.replicate m (zv.cells.toList.map .v))) (madeCells zv.cells (c*z)):=by
      refine ⟨hsize,hz0,by simp;omega,by simpa using hmc,by simp,fun r hr=>?_,fun i j hi hj=>?_,fun p v hp=>?_⟩
      ·simp only[aU,List.map_replicate] at hr
       simp_all
      ·simp at hi
       have hrow:(aU (List.replicate m (zv.cells.toList.map T.v)))[i]'(by simpa using hi)=(zv.cells.toList.map T.v).map .p:=by simp[aU]
       simp only[hrow] at hj ⊢
       have hj':j<z:=by simpa [hzc] using hj
       have hlt:i*z+j<c*z:=by have:=fQ (m:=1) (j:=j) (show i<c by omega) (by omega:j+1≤z);omega
       refine ⟨_,hcell _ hlt,?_⟩
       have hm:(i*z+j) % z=j:=by rw[Nat.mul_comm,Nat.mul_add_mod,Nat.mod_eq_of_lt hj']
       simp only[hm,List.getElem_map,Array.getElem_toList]
       exact .p _ _ (.v _)
      ·have hp':p<c*z:=by rw[←hsize];exact (Array.getElem?_eq_some_iff.1 hp).1
       rw[hcell p hp'] at hp
       cases hp
       exact Array.all_eq_true.1 hz1 _ _
     obtain ⟨g1,g2⟩:=hI.lW (w':=w.alloc (.cells (madeCells zv.cells (c*z)) e)) hk ⟨w.heap.size,z,c,e,m⟩ (.arr false z (List.replicate m (zv.cells.toList.map .v))) hbel (fun _=>⟨Nat.le_refl _,by show w.heap.size<(w.heap.push _).size;simp⟩)
      ⟨fun _=>⟨.cells (madeCells zv.cells (c*z)) e,by show (w.heap.push _)[w.heap.size]? = _;simp,(dV.rows (l:=⟨w.heap.size,z,c,e,m⟩) _ _ _ rfl (fun _ _ _ e=>by cases e;rfl) hB).mono (fun b _ hlt=>hbel.block b hlt) hbel.size (fun b hb hn hc=>by
        rcases hc with hc|⟨_,rfl⟩
        ·simp_all
        ·exact Nat.lt_irrefl _ hb) (fun i l' hi=>by rw[bK _ _ (fun e=>by have:=(hI.new i l' hi).1;omega)];exact hi)⟩,fun h=>absurd h (by show ¬ m+c=0;omega)⟩
     refine ⟨_,_,_,hrun,g1,g2,?_⟩
     exact .own k ⟨w.heap.size,z,c,e,m⟩ (by simp) (by show 0<m+c;omega) hmc (by show c≤maxLen;unfold maxLen;omega)
   ·cases h
  ·cases h
 ·cases h
end
end Go.Pv
