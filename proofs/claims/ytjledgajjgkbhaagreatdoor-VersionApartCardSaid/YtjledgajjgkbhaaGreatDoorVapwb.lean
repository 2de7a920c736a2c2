/-
  The pure evaluator, part b: the operations that leave the boxes alone, and that the model's own operations do just that.
-/
import Derived.Test.YtjledgajjgkbhaaGreatDoorVapwa
import Derived.Laws.Entries
set_option linter.defProp false
namespace Go.Pv
open Go Go.RowKit
def tsz? (P:Program) (t:TypeId):Option Nat:=(P.info? t).map (·.size)
def tby? (P:Program) (t:TypeId):Option Nat:=(P.info? t).map (·.bytes)
def tz? (P:Program) (t:TypeId):Option Value:=(P.info? t).bind (·.zero)
def Z6:TypeDesc→Bool
 | .struct _ | .array _ _=>true
 | _=>false
section
variable {P : Program} {t : TypeId} (w : World)
theorem run_sizeOf? {n:Nat} (h:tsz? P t=some n):(sizeOf t).run P w = .ok n w:=by
 simp only[tsz?,Option.map_eq_some_iff] at h
 obtain ⟨i,h1,h2⟩:=h
 simp[sizeOf,typeInfo,h1,h2]
theorem run_zero? {z:Value} (h:tz? P t=some z):(zeroValue t).run P w = .ok z w:=by
 simp only[tz?,Option.bind_eq_some_iff] at h
 obtain ⟨i,h1,h2⟩:=h
 simp[zeroValue,typeInfo,h1,h2]
theorem uA {d:TypeDesc} (h:P.underlying t=some d):(isAgg t).run P w = .ok (Z6 d) w:=by
 cases d<;>simp[isAgg,run_underlying h,Z6]
end
def ev (s:Nat→D):Operand→D
 | .tmp t=>s t
 | .const v=>.p (.v v)
 | .global g=>.p (.v (.pointer (some ⟨g,0,none⟩)))
 | .func f=>.p (.fn f [] [])
def l6 (P:Program) (t:TypeId):Option TypeId :=
 match P.underlying t with
 | some (.slice e)=>some e
 | _=>none
theorem hU {P:Program} {t e:TypeId} (h:l6 P t=some e):P.underlying t=some (.slice e):=by
 unfold l6 at h
 grind
def AX (P:Program) (t:TypeId):Option Bool:=(P.underlying t).map Z6
theorem M0 {P:Program} {t:TypeId} {b:Bool} (h:AX P t=some b):∃ td,P.underlying t=some td∧Z6 td=b:=by
 simpa [AX,Option.map_eq_some_iff] using h
def AAG (P:Program) (t:TypeId):Option (Nat×TypeId) :=
 match P.underlying t with
 | some (.array n e)=>some (n,e)
 | _=>none
theorem NA {P:Program} {t:TypeId} {x:Nat×TypeId} (h:AAG P t=some x):P.underlying t=some (.array x.1 x.2):=by
 unfold AAG at h
 grind
def NW (P:Program) (t:TypeId) (i:Nat):Option Nat :=
 match P.underlying t with
 | some (.struct fs) =>
  match fs[i]? with
  | some f =>
   match tsz? P f.type with
   | some z=>if z=0 then none else some f.offset
   | none=>none
  | none=>none
 | _=>none
theorem Q6 {P:Program} {t:TypeId} {i o:Nat} (h:NW P t i=some o):∃ fs f z,P.underlying t=some (.struct fs)∧fs[i]? = some f∧tsz? P f.type=some z∧z≠0∧f.offset=o:=by
 unfold NW at h
 split at h
 ·split at h
  ·split at h
   ·simp_all
   ·cases h
  ·cases h
 ·cases h
section
variable {w : World} {own : Nat → Prop} {ρ : Nat → Option Loc}
def toT:D→Option T
 | .p t=>some t
 | _=>none
def gZ (ds:List D):Option (List T):=ds.mapM toT
theorem M3:∀ (ts:List T),gZ (ts.map .p)=some ts
 | []=>rfl
 | t::ts=>by
  have:=M3 ts
  simp only[gZ] at this
  simp[gZ,toT,this]
theorem fG:∀ {ds:List D} {ts:List T},gZ ds=some ts→ds=ts.map .p
 | [],ts,h=>by simp[gZ] at h;subst h;rfl
 | d::ds,ts,h=>by
  simp only[gZ,List.mapM_cons,Option.bind_eq_bind,Option.bind_eq_some_iff,Option.pure_def] at h
  obtain ⟨t,h1,us,h2,h3⟩:=h
  cases h3
  have:=fG (ds:=ds) (ts:=us) h2
  cases d<;>simp[toT] at h1
  simp_all
def TF (ds:List D):D :=
 match gZ ds with
 | some ts=>.p (.agg ts)
 | none=>.agg ds
theorem OV {ds:List D} {vs:Array Value} (h:cZ (Rd w own ρ) ds vs):Rd w own ρ (TF ds) (.agg vs):=by
 unfold TF
 split
 ·rename_i ts hts
  have e:=fG hts
  subst e
  refine .p _ _ (.agg ts vs (by simpa using h.1) fun i hi=>?_)
  have:=h.2 i (by simpa using hi)
  simp only[List.getElem_map] at this
  cases this with
  | p _ _ h=>exact h
 ·exact .agg _ _ h.1 h.2
end
def yB (P:Program) (σ:Nat→Option bB) (t:TypeId) (d:D):Option D :=
 match AX P t,tsz? P t with
 | some ag,some n =>
  match d with
  | .p (.ref cs)=>if ag then (if n≤cs.length then some (.p (.agg (cs.take n))) else none) else (cs[0]?).map .p
  | .ptr k i j =>
   match (σ k).bind eC with
   | some rs =>
    match rs[i]? with
    | some r=>if ag then (if j+n≤r.length then some (TF ((r.drop j).take n)) else none) else r[j]?
    | none=>none
   | _=>none
  | _=>none
 | _,_=>none
theorem wL {P:Program} {t:TypeId} {td:TypeDesc} {n:Nat} (hu:P.underlying t=some td) (ha:Z6 td=true) (hn:tsz? P t=some n) (w:World) (b o:Nat) (f:Nat→Value)
  (hc:∀ j,j<n→w.cell? ⟨b,o+j,none⟩=some (f j)):(loadVar t ⟨b,o,none⟩).run P w = .ok (.agg ((List.range n).map f).toArray) w:=by
 have h:=run_loadCells (P:=P) w ⟨b,o,none⟩ n f (fun j hj=>by rw[Addr.add_lit];exact hc j hj)
 simp[loadVar,uA w hu,ha,run_sizeOf? w hn,h]
theorem wM {P:Program} {t:TypeId} {td:TypeDesc} (hu:P.underlying t=some td) (ha:Z6 td=false) (w:World) (b o:Nat) (u:Value)
  (hc:w.cell? ⟨b,o,none⟩=some u):(loadVar t ⟨b,o,none⟩).run P w = .ok u w:=by
 simp[loadVar,uA w hu,ha,hc]
theorem cZ.range {α:Type} {R:α→Value→Prop} (cs:List α) (n:Nat) (f:Nat→Value) (hn:n=cs.length) (h:∀ j (hj:j<cs.length),R cs[j] (f j)):cZ R cs ((List.range n).map f).toArray:=by
 subst hn
 refine ⟨by simp,fun i hi=>?_⟩
 simp_all
section
variable {cx : Cx} {ρ : Nat → Option Loc} {σ : Nat → Option bB} {n : Nat} {w : World}
theorem Inv.rows (h:Inv cx ρ σ n w) {k:Nat} {rs:List (List D)} (hk:(σ k).bind eC=some rs) (hne:rs≠[]):∃ l c,ρ k=some l∧0<l.L+l.C∧w.heap[l.bJ]? = some (.cells c l.e (0,0))∧LP w (bL cx ρ σ) ρ l rs c:=by
 simp only[Option.bind_eq_some_iff] at hk
 obtain ⟨x,hx,hr⟩:=hk
 obtain ⟨l,hl,hL,o,ho,hb⟩:=h.loc hx (fun ro z e=>by subst e;simp[eC,aU] at hr;exact hne hr)
 cases hb with
 | rows _ rs' c hr' _ hb=>rw[hr] at hr';cases hr';exact ⟨l,c,hl,hL,ho,hb⟩
 | _=>simp[eC] at hr
theorem Inv.jL (h:Inv cx ρ σ n w) {k:Nat} {rs:List (List D)} (hk:(σ k).bind eC=some rs) {l:Loc} (hl:ρ k=some l) (hm:0<l.L+l.C):∃ c,w.heap[l.bJ]? = some (.cells c l.e (0,0))∧LP w (bL cx ρ σ) ρ l rs c:=by
 simp only[Option.bind_eq_some_iff] at hk
 obtain ⟨x,hx,hr⟩:=hk
 obtain ⟨l',hl',hb⟩:=h.boxes k x hx
 rw[hl] at hl';cases hl'
 obtain ⟨o,ho,hb⟩:=hb.1 hm
 cases hb with
 | rows _ rs' c hr' _ hb=>rw[hr] at hr';cases hr';exact ⟨c,ho,hb⟩
 | _=>simp[eC] at hr
theorem lB {α:Type} {l:List α} {i:Nat} {a:α} (h:l[i]? = some a):l≠[]:=by
 intro e;subst e;simp at h
theorem Inv.cellOf (h:Inv cx ρ σ n w) {k i j:Nat} {rs:List (List D)} {r:List D} (hk:(σ k).bind eC=some rs) (hi:rs[i]? = some r) (hj:j<r.length) {l:Loc} (hl:ρ k=some l) :
  ∃ u,w.cell? ⟨l.bJ,i*l.sz+j,none⟩=some u∧Rd w (bL cx ρ σ) ρ r[j] u∧u.oneCell'=true:=by
 obtain ⟨l',c,hl',_,hh,hb⟩:=h.rows hk (lB hi)
 rw[hl] at hl';cases hl'
 obtain ⟨hi',rfl⟩:=List.getElem?_eq_some_iff.1 hi
 obtain ⟨u,h1,h2⟩:=hb.cell i j hi' hj
 exact ⟨u,by simp[World.cell?,hh,h1],h2,hb.one _ _ h1⟩
theorem ADD (h:Inv cx ρ σ n w) {t:TypeId} {d e:D} {x:Value} (hd:Rd w (bL cx ρ σ) ρ d x) (he:yB cx.P σ t d=some e) :
  ∃ v,(Instr.loadAt t x).run cx.P w = .ok v w∧Rd w (bL cx ρ σ) ρ e v:=by
 unfold yB at he
 split at he
 ·rename_i ag m hag hm
  obtain ⟨td,hu,rfl⟩:=M0 hag
  split at he
  ·cases hd with
   | p _ _ hd =>
   cases hd with
   | ref _ b o f h1 h2 h3 h4 =>
   split at he
   ·rename_i ha
    split at he
    ·cases he
     refine ⟨_,?_,.p _ _ (.agg _ ((List.range m).map f).toArray ?_ ?_)⟩
     ·exact wL hu ha hm w b o f (fun j hj=>(h3 j (by omega)).1)
     ·simp_all
     ·simp_all
    ·cases he
   ·rename_i ha
    simp only[Option.map_eq_some_iff] at he
    obtain ⟨e',h5,rfl⟩:=he
    obtain ⟨h6,h7⟩:=List.getElem?_eq_some_iff.1 h5
    refine ⟨f 0,?_,.p _ _ (h7 ▸ h4 0 h6)⟩
    exact wM hu (by simpa using ha) w b o _ (h3 0 h6).1
  ·rename_i k i j
   cases hd with
   | ptr _ _ _ l hl =>
   split at he
   ·rename_i rs hk
    split at he
    ·rename_i r hr
     have hcell:=fun j hj=>h.cellOf hk hr (j:=j) hj hl
     split at he
     ·rename_i ha
      split at he
      ·cases he
       have hex:∃ f:Nat→Value,∀ q,q<m→w.cell? ⟨l.bJ,i*l.sz+(j+q),none⟩=some (f q)∧∀ (hq:j+q<r.length),Rd w (bL cx ρ σ) ρ r[j+q] (f q):=by
        refine ⟨fun q=>if hq:j+q<r.length then Classical.choose (hcell (j+q) hq) else undef,fun q hq=>?_⟩
        have hq':j+q<r.length:=by omega
        have hs:=Classical.choose_spec (hcell (j+q) hq')
        simp only[hq',dite_true]
        exact ⟨hs.1,fun _=>hs.2.1⟩
       obtain ⟨f,hf⟩:=hex
       refine ⟨_,?_,OV (vs:=((List.range m).map f).toArray) ⟨?_,?_⟩⟩
       ·exact wL hu ha hm w _ _ f (fun q hq=>by rw[Nat.add_assoc];exact (hf q hq).1)
       ·simp;omega
       ·intro q hq
        simp at hq
        have hm':q<m:=by omega
        simp_all
      ·cases he
     ·rename_i ha
      obtain ⟨h6,h7⟩:=List.getElem?_eq_some_iff.1 he
      obtain ⟨u,h8,h9,_⟩:=hcell j h6
      refine ⟨u,?_,h7 ▸ h9⟩
      exact wM hu (by simpa using ha) w _ _ _ h8
    ·cases he
   ·cases he
  ·cases he
 ·cases he
end
def AHE (P:Program) (t:TypeId) (d:D) (i:Nat):Option D :=
 match NW P t i with
 | some o =>
  match d with
  | .p (.ref cs)=>if o<cs.length then some (.p (.ref (cs.drop o))) else none
  | .ptr k r j=>some (.ptr k r (j+o))
  | _=>none
 | none=>none
section
variable {cx : Cx} {ρ : Nat → Option Loc} {σ : Nat → Option bB} {n : Nat} {w : World} {own : Nat → Prop}
theorem cN.ALL {cs:List T} {b o m:Nat} (hm:m<cs.length) (h:cN w own (.ref cs) (.pointer (some ⟨b,o,none⟩))):cN w own (.ref (cs.drop m)) (.pointer (some ⟨b,o+m,none⟩)):=by
 cases h with
 | ref _ _ _ f h1 h2 h3 h4 =>
 refine .ref _ b (o+m) (fun j=>f (m+j)) h1 h2 (fun j hj=>?_) (fun j hj=>?_)
 ·grind
 ·simp_all
theorem APT {t:TypeId} {d e:D} {x:Value} {i:Nat} (hd:Rd w own ρ d x) (he:AHE cx.P t d i=some e) :
  ∃ v,(Instr.fieldAt t x i).run cx.P w = .ok v w∧Rd w own ρ e v:=by
 unfold AHE at he
 split at he
 ·rename_i o hfo
  obtain ⟨fs,f,z,hu,hf,hz,hz0,rfl⟩:=Q6 hfo
  have run:∀ b o,(Instr.fieldAt t (.pointer (some ⟨b,o,none⟩)) i).run cx.P w = .ok (.pointer (some ⟨b,o+f.offset,none⟩)) w:=by
   simp[Instr.fieldAt,run_underlying hu,hf,Instr.sureAddr,fieldPlace,run_sizeOf? w hz,hz0,Addr.add_lit]
  split at he
  ·split at he
   ·rename_i hlt
    cases he
    cases hd with
    | p _ _ hd =>
    cases hd with
    | ref _ b o g h1 h2 h3 h4 =>
    exact ⟨_,run b o,.p _ _ (cN.ALL hlt (.ref _ b o g h1 h2 h3 h4))⟩
   ·cases he
  ·rename_i k r j
   cases he
   cases hd with
   | ptr _ _ _ l hl =>
   refine ⟨_,run _ _,?_⟩
   rw[Nat.add_assoc]
   exact .ptr k r (j+f.offset) l hl
  ·cases he
 ·cases he
def fK:T→Option (Bool×List (List T))
 | .sl f rows=>some (f,rows)
 | .v (.slice none 0 0)=>some (true,[])
 | .ne f=>some (f,[])
 | _=>none
theorem TX {w:World} {own:Nat→Prop} {t:T} {v:Value} {full:Bool} {rows:List (List T)} (h:cN w own t v) (hr:fK t=some (full,rows)):cN w own (.sl full rows) v:=by
 unfold fK at hr
 split at hr
 ·simp_all
 ·cases hr;cases h;exact .cQ true none 0 (fun _=>rfl) (fun _=>rfl)
 ·cases hr
  cases h with
  | ne _ a cap hf=>exact .cQ _ (some a) cap hf (by simp)
 ·cases hr
def dN (P:Program) (σ:Nat→Option bB) (t:TypeId) (d:D) (i:D):Option D :=
 match i with
 | .p (.v (.int _ i)) =>
  if i<0 then none else
  match l6 P t with
  | some e =>
   match tsz? P e,d with
   | some z,.p tt =>
    match fK tt with
    | some (_,rows) =>
     match rows[i.toNat]? with
     | some r=>if r.length=z then some (.p (.ref r)) else none
     | none=>none
    | none=>none
   | some z,.bs k off len =>
    if i.toNat<len then
     match (σ k).bind eC with
     | some rs=>match rs[off+i.toNat]? with
      | some r=>if r.length=z then some (.ptr k (off+i.toNat) 0) else none
      | none=>none
     | _=>none
    else none
   | some z,.own k =>
    match (σ k).bind eC with
    | some rs=>match rs[i.toNat]? with
     | some r=>if r.length=z then some (.ptr k i.toNat 0) else none
     | none=>none
    | _=>none
   | _,_=>none
  | none =>
   match AAG P t with
   | some (m,e) =>
    match tsz? P e,d with
    | some z,.p (.ref cs)=>if i.toNat<m then (if i.toNat*z<cs.length then some (.p (.ref (cs.drop (i.toNat*z)))) else none) else none
    | some z,.ptr k r j=>if i.toNat<m then some (.ptr k r (j+i.toNat*z)) else none
    | _,_=>none
   | none=>none
 | _=>none
theorem RB (h:Inv cx ρ σ n w) {t:TypeId} {d i e:D} {x y:Value} (hd:Rd w (bL cx ρ σ) ρ d x) (hi:Rd w (bL cx ρ σ) ρ i y) (he:dN cx.P σ t d i=some e) :
  ∃ v,(Instr.indexAt t x y).run cx.P w = .ok v w∧Rd w (bL cx ρ σ) ρ e v:=by
 unfold dN at he
 split at he
 ·rename_i kk i
  cases hi with
  | p _ _ hi =>
  cases hi with
  | v =>
  split at he
  ·cases he
  ·have hnn:0≤i:=by omega
   split at he
   ·rename_i el hel
    have hu:=hU hel
    split at he
    ·rename_i _ z tt hz
     split at he
     ·rename_i f rows hrows
      split at he
      ·rename_i r hr
       split at he
       ·rename_i hrz
        cases he
        obtain ⟨hlt,hre⟩:=List.getElem?_eq_some_iff.1 hr
        cases hd with
        | p _ _ hd =>
        have hd:=TX hd hrows
        cases hd with
        | cQ=>simp at hlt
        | sl _ _ sz b o cap g h1 h2 h3 h4 h45 h5 h6 h7 h8 =>
         have hsz:sz=z:=by rw[←h5 r (hre ▸ List.getElem_mem hlt)];exact hrz
         subst hsz
         refine ⟨.pointer (some ⟨b,o+i.toNat*sz,none⟩),?_,.p _ _ (.ref r b (o+i.toNat*sz) (g i.toNat) h4 h45 (fun j hj=>h7 i.toNat j hlt (by omega)) (fun j hj=>?_))⟩
         ·have hl:i<(rows.length:Int):=by omega
          simp[Instr.indexAt,run_underlying hu,asIntOf,hnn,hl,run_sizeOf? w hz,Addr.add_lit]
         ·have:=h8 i.toNat j hlt (by rw[hre];exact hj)
          simp_all
       ·cases he
      ·cases he
     ·cases he
    ·rename_i _ z k off len hz
     split at he
     ·split at he
      ·rename_i rs hk
       split at he
       ·rename_i r hr
        split at he
        ·rename_i hrz
         cases he
         cases hd with
         | bs _ _ _ l hl h1 h2 =>
         obtain ⟨l',c,hl',_,hh,hb⟩:=h.rows hk (lB hr)
         rw[hl] at hl';cases hl'
         have hz':l.sz=z:=by rw[←hb.width r (List.mem_of_getElem? hr)];exact hrz
         refine ⟨.pointer (some ⟨l.bJ,(off+i.toNat)*l.sz+0,none⟩),?_,.ptr _ _ _ l hl⟩
         have hl3:i<(len:Int):=by omega
         simp[Instr.indexAt,run_underlying hu,asIntOf,hnn,hl3,run_sizeOf? w hz,Addr.add_lit,hz',Nat.add_mul]
        ·cases he
       ·cases he
      ·cases he
     ·cases he
    ·rename_i _ z k hz
     split at he
     ·rename_i rs hk
      split at he
      ·rename_i r hr
       split at he
       ·rename_i hrz
        cases he
        obtain ⟨l',c,hl',_,hh,hb⟩:=h.rows hk (lB hr)
        obtain ⟨hi',_⟩:=List.getElem?_eq_some_iff.1 hr
        have hz':l'.sz=z:=by rw[←hb.width r (List.mem_of_getElem? hr)];exact hrz
        have hcnt:=hb.VU
        cases hd with
        | own _ l hl h0 h1 h2 =>
         rw[hl] at hl';cases hl'
         refine ⟨.pointer (some ⟨l'.bJ,i.toNat*l'.sz+0,none⟩),?_,.ptr _ _ _ l' hl⟩
         have hl3:i<(l'.L:Int):=by omega
         simp[Instr.indexAt,run_underlying hu,asIntOf,hnn,hl3,run_sizeOf? w hz,Addr.add_lit,hz']
        | c0 _ l a hl h0 =>
         simp_all
       ·cases he
      ·cases he
     ·cases he
    ·cases he
   ·split at he
    ·rename_i m el har
     have hu:=NA har
     split at he
     ·rename_i _ z cs hz
      split at he
      ·split at he
       ·rename_i hlt2
        cases he
        cases hd with
        | p _ _ hd =>
        cases hd with
        | ref _ b o g h1 h2 h3 h4 =>
        refine ⟨.pointer (some ⟨b,o+i.toNat*z,none⟩),?_,.p _ _ (cN.ALL hlt2 (.ref _ b o g h1 h2 h3 h4))⟩
        have hl:i<(m:Int):=by omega
        simp[Instr.indexAt,run_underlying hu,asIntOf,Instr.sureAddr,hnn,hl,run_sizeOf? w hz,Addr.add_lit]
       ·cases he
      ·cases he
     ·rename_i _ z k r j hz
      split at he
      ·cases he
       cases hd with
       | ptr _ _ _ l hl =>
       refine ⟨.pointer (some ⟨l.bJ,r*l.sz+(j+i.toNat*z),none⟩),?_,.ptr _ _ _ l hl⟩
       have hl3:i<(m:Int):=by omega
       simp[Instr.indexAt,run_underlying hu,asIntOf,Instr.sureAddr,hnn,hl3,run_sizeOf? w hz,Addr.add_lit,Nat.add_assoc]
      ·cases he
     ·cases he
    ·cases he
 ·cases he
end
end Go.Pv
