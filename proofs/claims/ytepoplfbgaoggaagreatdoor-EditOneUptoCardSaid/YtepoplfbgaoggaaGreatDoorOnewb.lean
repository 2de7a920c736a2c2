/-
  The pure evaluator, part b: the operations that leave the boxes alone, and that the model's own operations do just that.
-/
import Derived.Test.YtepoplfbgaoggaaGreatDoorOnewa
import Derived.Laws.Entries
set_option linter.defProp false
namespace Go.Pv
open Go Go.RowKit
def tsz? (P:Program) (t:TypeId):Option Nat:=(P.info? t).map (·.size)
def tby? (P:Program) (t:TypeId):Option Nat:=(P.info? t).map (·.bytes)
def tz? (P:Program) (t:TypeId):Option Value:=(P.info? t).bind (·.zero)
def AH0:TypeDesc->Bool
 | .struct _ | .array _ _=>true
 | _=>false
section
variable {P : Program} {t : TypeId} (w : World)
def run_sizeOf? {n:Nat} (h:tsz? P t=some n):(sizeOf t).run P w = .ok n w:=by
 simp only[tsz?,aa] at h;obtain ⟨i,h1,h2⟩:=h;simp[sizeOf,typeInfo,h1,h2]
def run_zero? {z:Value} (h:tz? P t=some z):(zeroValue t).run P w = .ok z w:=by
 simp only[tz?,Option.bind_eq_some_iff] at h;obtain ⟨i,h1,h2⟩:=h;simp[zeroValue,typeInfo,h1,h2]
def wS {d:TypeDesc} (h:P.underlying t=some d):(isAgg t).run P w = .ok (AH0 d) w:=by
 cases d<;>simp[isAgg,run_underlying h,AH0]
end
def ev (s:Nat->D):Operand->D
 | .tmp t=>s t
 | .const v=>.p (.v v)
 | .global g=>.p (.v (.pointer (some ⟨g,0,none⟩)))
 | .func f=>.p (.fn f [] [])
def pM (P:Program) (t:TypeId):Option TypeId :=
 match P.underlying t with
 | some (.slice e)=>some e
 | _=>none
variable {P:Program}
def jV {t e:TypeId} (h:pM P t=some e):P.underlying t=some (.slice e):=by
 unfold pM at h
 grind
def EA (P:Program) (t:TypeId):Option Bool:=(P.underlying t).map AH0
def SU {t:TypeId} {b:Bool} (h:EA P t=some b):∃ td,P.underlying t=some td/\AH0 td=b:=by
 simpa [EA,aa] using h
def AH9 (P:Program) (t:TypeId):Option (Nat×TypeId) :=
 match P.underlying t with
 | some (.array n e)=>some (n,e)
 | _=>none
def S1 {t:TypeId} {x:Nat×TypeId} (h:AH9 P t=some x):P.underlying t=some (.array x.1 x.2):=by
 unfold AH9 at h
 grind
def TU (P:Program) (t:TypeId) (i:Nat):Option Nat :=
 match P.underlying t with
 | some (.struct fs) =>
  match fs[i]? with
  | some f =>
   match tsz? P f.type with
   | some z=>if z=0 then none else some f.offset
   | none=>none
  | none=>none
 | _=>none
def YG {t:TypeId} {i o:Nat} (h:TU P t i=some o):∃ fs f z,P.underlying t=some (.struct fs)/\fs[i]? = some f/\tsz? P f.type=some z/\z≠0/\f.offset=o:=by
 unfold TU at h;split at h
 ·split at h
  ·split at h
   ·simp_all
   ·cases h
  ·cases h
 ·cases h
section
variable {w : World} {own : Nat -> Prop} {ρ : Nat -> Option Loc}
def toT:D->Option T
 | .p t=>some t
 | _=>none
def qU (ds:List D):Option (List T):=ds.mapM toT
def AH1:∀ (ts:List T),qU (ts.map .p)=some ts
 | []=>rfl
 | t::ts=>by
  have:=AH1 ts;simp only[qU] at this;simp[qU,toT,this]
def mT:∀ {ds:List D} {ts:List T},qU ds=some ts->ds=ts.map .p
 | [],ts,h=>by simp[qU] at h;subst h;rfl
 | d::ds,ts,h=>by
  simp only[qU,List.mapM_cons,Option.bind_eq_bind,Option.bind_eq_some_iff,Option.pure_def] at h;obtain ⟨t,h1,us,h2,h3⟩:=h;cases h3;have:=mT (ds:=ds) (ts:=us) h2;cases d<;>simp[toT] at h1;simp_all
def Z4 (ds:List D):D :=
 match qU ds with
 | some ts=>.p (.agg ts)
 | none=>.agg ds
def VC {ds:List D} {vs:Array Value} (h:dO (Rd w own ρ) ds vs):Rd w own ρ (Z4 ds) (.agg vs):=by
 unfold Z4;split
 ·rename_i ts hts;have e:=mT hts;subst e;refine .p _ _ (.agg ts vs (by simpa using h.1) λi hi=>?_);have:=h.2 i (by simpa using hi);simp only[List.getElem_map] at this;cases this with
  | p _ _ h=>exact h
 ·exact .agg _ _ h.1 h.2
end
def BL (P:Program) (σ:Nat->Option bL) (t:TypeId) (d:D):Option D :=
 match EA P t,tsz? P t with
 | some ag,some n =>
  match d with
  | .p (.ref cs)=>if ag then (if n<=cs.length then some (.p (.agg (cs.take n))) else none) else (cs[0]?).map .p
  | .ptr k i j =>
   match (σ k).bind fJ with
   | some rs =>
    match rs[i]? with
    | some r=>if ag then (if j+n<=r.length then some (Z4 ((r.drop j).take n)) else none) else r[j]?
    | none=>none
   | _=>none
  | _=>none
 | _,_=>none
variable {td:TypeDesc}
def zK {t:TypeId} {n:Nat} (hu:P.underlying t=some td) (ha:AH0 td=true) (hn:tsz? P t=some n) (w:World) (b o:Nat) (f:Nat->Value)
  (hc:∀ j,j<n->w.cell? ⟨b,o+j,none⟩=some (f j)):(loadVar t ⟨b,o,none⟩).run P w = .ok (.agg ((List.range n).map f).toArray) w:=by
 have h:=run_loadCells (P:=P) w ⟨b,o,none⟩ n f (λj hj=>by rw[Addr.add_lit];exact hc j hj);simp[loadVar,wS w hu,ha,run_sizeOf? w hn,h]
def zL {t:TypeId} (hu:P.underlying t=some td) (ha:AH0 td=false) (w:World) (b o:Nat) (u:Value)
  (hc:w.cell? ⟨b,o,none⟩=some u):(loadVar t ⟨b,o,none⟩).run P w = .ok u w:=by
 simp[loadVar,wS w hu,ha,hc]
variable {α:Type}
def dO.range {R:α->Value->Prop} (cs:List α) (n:Nat) (f:Nat->Value) (hn:n=cs.length) (h:∀ j (hj:j<cs.length),R cs[j] (f j)):dO R cs ((List.range n).map f).toArray:=by
 subst hn;refine ⟨by simp,λi hi=>?_⟩;simp_all
section
variable {cx : Cx} {ρ : Nat -> Option Loc} {σ : Nat -> Option bL} {n : Nat} {w : World}
variable {rs:List (List D)}
def Inv.rows (h:Inv cx ρ σ n w) {k:Nat} (hk:(σ k).bind fJ=some rs) (hne:rs≠[]):∃ l c,ρ k=some l/\0<l.L+l.C/\w.heap[l.bV]? = some (.cells c l.e (0,0))/\AGZ w (bY cx ρ σ) ρ l rs c:=by
 simp only[Option.bind_eq_some_iff] at hk;obtain ⟨x,hx,hr⟩:=hk;obtain ⟨l,hl,hL,o,ho,hb⟩:=h.loc hx (λro z e=>by subst e;simp[fJ,bK] at hr;exact hne hr);cases hb with
 | rows _ rs' c hr' _ hb=>rw[hr] at hr';cases hr';exact ⟨l,c,hl,hL,ho,hb⟩
 | _=>simp[fJ] at hr
variable {l:Loc}
def Inv.JP (h:Inv cx ρ σ n w) {k:Nat} (hk:(σ k).bind fJ=some rs) (hl:ρ k=some l) (hm:0<l.L+l.C):∃ c,w.heap[l.bV]? = some (.cells c l.e (0,0))/\AGZ w (bY cx ρ σ) ρ l rs c:=by
 simp only[Option.bind_eq_some_iff] at hk;obtain ⟨x,hx,hr⟩:=hk;obtain ⟨l',hl',hb⟩:=h.boxes k x hx;rw[hl] at hl';cases hl';obtain ⟨o,ho,hb⟩:=hb.1 hm;cases hb with
 | rows _ rs' c hr' _ hb=>rw[hr] at hr';cases hr';exact ⟨c,ho,hb⟩
 | _=>simp[fJ] at hr
def l9 {l:List α} {i:Nat} {a:α} (h:l[i]? = some a):l≠[]:=by
 intro e;subst e;simp at h
def Inv.cellOf (h:Inv cx ρ σ n w) {k i j:Nat} {r:List D} (hk:(σ k).bind fJ=some rs) (hi:rs[i]? = some r) (hj:j<r.length) (hl:ρ k=some l) :
  ∃ u,w.cell? ⟨l.bV,i*l.sz+j,none⟩=some u/\Rd w (bY cx ρ σ) ρ r[j] u/\u.oneCell'=true:=by
 obtain ⟨l',c,hl',_,hh,hb⟩:=h.rows hk (l9 hi);rw[hl] at hl';cases hl';obtain ⟨hi',rfl⟩:=List.getElem?_eq_some_iff.1 hi;obtain ⟨u,h1,h2⟩:=hb.cell i j hi' hj;exact ⟨u,by simp[World.cell?,hh,h1],h2,hb.one _ _ h1⟩
def ALE (h:Inv cx ρ σ n w) {t:TypeId} {d e:D} {x:Value} (hd:Rd w (bY cx ρ σ) ρ d x) (he:BL cx.P σ t d=some e) :
  ∃ v,(Instr.loadAt t x).run cx.P w = .ok v w/\Rd w (bY cx ρ σ) ρ e v:=by
 unfold BL at he;split at he
 ·rename_i ag m hag hm;obtain ⟨td,hu,rfl⟩:=SU hag;split at he
  ·cases hd with
   | p _ _ hd =>
   cases hd with
   | ref _ b o f h1 h2 h3 h4 =>
   split at he
   ·rename_i ha;split at he
    ·cases he;refine ⟨_,?_,.p _ _ (.agg _ ((List.range m).map f).toArray ?_ ?_)⟩
     ·exact zK hu ha hm w b o f (λj hj=>(h3 j (by omega)).1)
     ·simp_all
     ·simp_all
    ·cases he
   ·rename_i ha;simp only[aa] at he;obtain ⟨e',h5,rfl⟩:=he;obtain ⟨h6,h7⟩:=List.getElem?_eq_some_iff.1 h5;refine ⟨f 0,?_,.p _ _ (h7 ▸ h4 0 h6)⟩;exact zL hu (by simpa using ha) w b o _ (h3 0 h6).1
  ·rename_i k i j;cases hd with
   | ptr _ _ _ l hl =>
   split at he
   ·rename_i rs hk;split at he
    ·rename_i r hr;have hcell:=λj hj=>h.cellOf hk hr (j:=j) hj hl;split at he
     ·rename_i ha;split at he
      ·cases he;have hex:∃ f:Nat->Value,∀ q,q<m->w.cell? ⟨l.bV,i*l.sz+(j+q),none⟩=some (f q)/\∀ (hq:j+q<r.length),Rd w (bY cx ρ σ) ρ r[j+q] (f q):=by
        refine ⟨λq=>if hq:j+q<r.length then Classical.choose (hcell (j+q) hq) else undef,λq hq=>?_⟩;have hq':j+q<r.length:=by omega
        have hs:=Classical.choose_spec (hcell (j+q) hq');simp only[hq',dite_true];exact ⟨hs.1,λ_=>hs.2.1⟩
       obtain ⟨f,hf⟩:=hex;refine ⟨_,?_,VC (vs:=((List.range m).map f).toArray) ⟨?_,?_⟩⟩
       ·exact zK hu ha hm w _ _ f (λq hq=>by rw[Nat.add_assoc];exact (hf q hq).1)
       ·simp;omega
       ·intro q hq;simp at hq;have hm':q<m:=by omega
        simp_all
      ·cases he
     ·rename_i ha;obtain ⟨h6,h7⟩:=List.getElem?_eq_some_iff.1 he;obtain ⟨u,h8,h9,_⟩:=hcell j h6;refine ⟨u,?_,h7 ▸ h9⟩;exact zL hu (by simpa using ha) w _ _ _ h8
    ·cases he
   ·cases he
  ·cases he
 ·cases he
end
def APZ (P:Program) (t:TypeId) (d:D) (i:Nat):Option D :=
 match TU P t i with
 | some o =>
  match d with
  | .p (.ref cs)=>if o<cs.length then some (.p (.ref (cs.drop o))) else none
  | .ptr k r j=>some (.ptr k r (j+o))
  | _=>none
 | none=>none
section
variable {cx : Cx} {ρ : Nat -> Option Loc} {σ : Nat -> Option bL} {n : Nat} {w : World} {own : Nat -> Prop}
def cS.AUX {cs:List T} {b o m:Nat} (hm:m<cs.length) (h:cS w own (.ref cs) (.pointer (some ⟨b,o,none⟩))):cS w own (.ref (cs.drop m)) (.pointer (some ⟨b,o+m,none⟩)):=by
 cases h with
 | ref _ _ _ f h1 h2 h3 h4 =>
 refine .ref _ b (o+m) (λj=>f (m+j)) h1 h2 (λj hj=>?_) (λj hj=>?_)
 ·grind
 ·simp_all
def AZY {t:TypeId} {d e:D} {x:Value} {i:Nat} (hd:Rd w own ρ d x) (he:APZ cx.P t d i=some e) :
  ∃ v,(Instr.fieldAt t x i).run cx.P w = .ok v w/\Rd w own ρ e v:=by
 unfold APZ at he;split at he
 ·rename_i o hfo;obtain ⟨fs,f,z,hu,hf,hz,hz0,rfl⟩:=YG hfo;have run:∀ b o,(Instr.fieldAt t (.pointer (some ⟨b,o,none⟩)) i).run cx.P w = .ok (.pointer (some ⟨b,o+f.offset,none⟩)) w:=by
   simp[Instr.fieldAt,run_underlying hu,hf,Instr.sureAddr,fieldPlace,run_sizeOf? w hz,hz0,Addr.add_lit]
  split at he
  ·split at he
   ·rename_i hlt;cases he;cases hd with
    | p _ _ hd =>
    cases hd with
    | ref _ b o g h1 h2 h3 h4 =>
    exact ⟨_,run b o,.p _ _ (cS.AUX hlt (.ref _ b o g h1 h2 h3 h4))⟩
   ·cases he
  ·rename_i k r j;cases he;cases hd with
   | ptr _ _ _ l hl =>
   refine ⟨_,run _ _,?_⟩;rw[Nat.add_assoc];exact .ptr k r (j+f.offset) l hl
  ·cases he
 ·cases he
def gP:T->Option (Bool×List (List T))
 | .sl f rows=>some (f,rows)
 | .v (.slice none 0 0)=>some (true,[])
 | .ne f=>some (f,[])
 | _=>none
def AAT {w:World} {own:Nat->Prop} {t:T} {v:Value} {full:Bool} {rows:List (List T)} (h:cS w own t v) (hr:gP t=some (full,rows)):cS w own (.sl full rows) v:=by
 unfold gP at hr;split at hr
 ·simp_all
 ·cases hr;cases h;exact .dF true none 0 (λ_=>rfl) (λ_=>rfl)
 ·cases hr;cases h with
  | ne _ a cap hf=>exact .dF _ (some a) cap hf (by simp)
 ·cases hr
def dY (P:Program) (σ:Nat->Option bL) (t:TypeId) (d:D) (i:D):Option D :=
 match i with
 | .p (.v (.int _ i)) =>
  if i<0 then none else
  match pM P t with
  | some e =>
   match tsz? P e,d with
   | some z,.p tt =>
    match gP tt with
    | some (_,rows) =>
     match rows[i.toNat]? with
     | some r=>if r.length=z then some (.p (.ref r)) else none
     | none=>none
    | none=>none
   | some z,.bs k off len =>
    if i.toNat<len then
     match (σ k).bind fJ with
     | some rs=>match rs[off+i.toNat]? with
      | some r=>if r.length=z then some (.ptr k (off+i.toNat) 0) else none
      | none=>none
     | _=>none
    else none
   | some z,.own k =>
    match (σ k).bind fJ with
    | some rs=>match rs[i.toNat]? with
     | some r=>if r.length=z then some (.ptr k i.toNat 0) else none
     | none=>none
    | _=>none
   | _,_=>none
  | none =>
   match AH9 P t with
   | some (m,e) =>
    match tsz? P e,d with
    | some z,.p (.ref cs)=>if i.toNat<m then (if i.toNat*z<cs.length then some (.p (.ref (cs.drop (i.toNat*z)))) else none) else none
    | some z,.ptr k r j=>if i.toNat<m then some (.ptr k r (j+i.toNat*z)) else none
    | _,_=>none
   | none=>none
 | _=>none
def YN (h:Inv cx ρ σ n w) {t:TypeId} {d i e:D} {x y:Value} (hd:Rd w (bY cx ρ σ) ρ d x) (hi:Rd w (bY cx ρ σ) ρ i y) (he:dY cx.P σ t d i=some e) :
  ∃ v,(Instr.indexAt t x y).run cx.P w = .ok v w/\Rd w (bY cx ρ σ) ρ e v:=by
 unfold dY at he;split at he
 ·rename_i kk i;cases hi with
  | p _ _ hi =>
  cases hi with
  | v =>
  split at he
  ·cases he
  ·have hnn:0<=i:=by omega
   split at he
   ·rename_i el hel;have hu:=jV hel;split at he
    ·rename_i _ z tt hz;split at he
     ·rename_i f rows hrows;split at he
      ·rename_i r hr;split at he
       ·rename_i hrz;cases he;obtain ⟨hlt,hre⟩:=List.getElem?_eq_some_iff.1 hr;cases hd with
        | p _ _ hd =>
        have hd:=AAT hd hrows;cases hd with
        | dF=>simp at hlt
        | sl _ _ sz b o cap g h1 h2 h3 h4 h45 h5 h6 h7 h8 =>
         have hsz:sz=z:=by rw[<-h5 r (hre ▸ ak hlt)];exact hrz
         subst hsz;refine ⟨.pointer (some ⟨b,o+i.toNat*sz,none⟩),?_,.p _ _ (.ref r b (o+i.toNat*sz) (g i.toNat) h4 h45 (λj hj=>h7 i.toNat j hlt (by omega)) (λj hj=>?_))⟩
         ·have hl:i<(rows.length:Int):=by omega
          simp[Instr.indexAt,run_underlying hu,asIntOf,hnn,hl,run_sizeOf? w hz,Addr.add_lit]
         ·have:=h8 i.toNat j hlt (by rw[hre];exact hj);simp_all
       ·cases he
      ·cases he
     ·cases he
    ·rename_i _ z k off len hz;split at he
     ·split at he
      ·rename_i rs hk;split at he
       ·rename_i r hr;split at he
        ·rename_i hrz;cases he;cases hd with
         | bs _ _ _ l hl h1 h2 =>
         obtain ⟨l',c,hl',_,hh,hb⟩:=h.rows hk (l9 hr);rw[hl] at hl';cases hl';have hz':l.sz=z:=by rw[<-hb.width r (List.mem_of_getElem? hr)];exact hrz
         refine ⟨.pointer (some ⟨l.bV,(off+i.toNat)*l.sz+0,none⟩),?_,.ptr _ _ _ l hl⟩;have hl3:i<(len:Int):=by omega
         simp[Instr.indexAt,run_underlying hu,asIntOf,hnn,hl3,run_sizeOf? w hz,Addr.add_lit,hz',Nat.add_mul]
        ·cases he
       ·cases he
      ·cases he
     ·cases he
    ·rename_i _ z k hz;split at he
     ·rename_i rs hk;split at he
      ·rename_i r hr;split at he
       ·rename_i hrz;cases he;obtain ⟨l',c,hl',_,hh,hb⟩:=h.rows hk (l9 hr);obtain ⟨hi',_⟩:=List.getElem?_eq_some_iff.1 hr;have hz':l'.sz=z:=by rw[<-hb.width r (List.mem_of_getElem? hr)];exact hrz
        have hcnt:=hb.uX;cases hd with
        | own _ l hl h0 h1 h2 =>
         rw[hl] at hl';cases hl';refine ⟨.pointer (some ⟨l'.bV,i.toNat*l'.sz+0,none⟩),?_,.ptr _ _ _ l' hl⟩;have hl3:i<(l'.L:Int):=by omega
         simp[Instr.indexAt,run_underlying hu,asIntOf,hnn,hl3,run_sizeOf? w hz,Addr.add_lit,hz']
        | eW _ l a hl h0 =>
         simp_all
       ·cases he
      ·cases he
     ·cases he
    ·cases he
   ·split at he
    ·rename_i m el har;have hu:=S1 har;split at he
     ·rename_i _ z cs hz;split at he
      ·split at he
       ·rename_i hlt2;cases he;cases hd with
        | p _ _ hd =>
        cases hd with
        | ref _ b o g h1 h2 h3 h4 =>
        refine ⟨.pointer (some ⟨b,o+i.toNat*z,none⟩),?_,.p _ _ (cS.AUX hlt2 (.ref _ b o g h1 h2 h3 h4))⟩;have hl:i<(m:Int):=by omega
        simp[Instr.indexAt,run_underlying hu,asIntOf,Instr.sureAddr,hnn,hl,run_sizeOf? w hz,Addr.add_lit]
       ·cases he
      ·cases he
     ·rename_i _ z k r j hz;split at he
      ·cases he;cases hd with
       | ptr _ _ _ l hl =>
       refine ⟨.pointer (some ⟨l.bV,r*l.sz+(j+i.toNat*z),none⟩),?_,.ptr _ _ _ l hl⟩;have hl3:i<(m:Int):=by omega
       simp[Instr.indexAt,run_underlying hu,asIntOf,Instr.sureAddr,hnn,hl3,run_sizeOf? w hz,Addr.add_lit,Nat.add_assoc]
      ·cases he
     ·cases he
    ·cases he
 ·cases he
end
end Go.Pv
