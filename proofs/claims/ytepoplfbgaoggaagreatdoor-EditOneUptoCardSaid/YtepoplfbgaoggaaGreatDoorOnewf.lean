/-
  The pure evaluator, part f: cutting slices, built-in functions, and the operations that leave the boxes alone, all together.
-/
import Derived.Test.YtepoplfbgaoggaaGreatDoorOnewe
set_option linter.defProp false
set_option linter.unusedSimpArgs false
namespace Go.Pv
open Go Go.RowKit
section
variable {P : Program} {w : World} {own : Nat -> Prop} {ρ : Nat -> Option Loc}
variable {full:Bool}
def oA {t:T} {v:Value} {rows:List (List T)} (h:cS w own t v) (hr:gP t=some (full,rows)):cS w own (.sl full rows) v:=AAT h hr
def cS.isSlice {v:Value} {rows:List (List T)} (h:cS w own (.sl full rows) v):∃ a cap,v = .slice a rows.length cap/\rows.length<=cap/\(full=true->cap=rows.length)/\rows.length<=2 ^ 47:=by
 cases h with
 | dF _ a cap hf hn=>exact ⟨a,cap,rfl,by simp,by simpa using hf,by simp⟩
 | sl _ _ sz b o cap f h1 h2 h3=>exact ⟨_,cap,rfl,h1,h3,h2⟩
def cS.cut {full':Bool} {rows:List (List T)} {a:Option Addr} {cap z l h m:Nat} (hr:cS w own (.sl full rows) (.slice a rows.length cap)) (hz:MR z rows=true) (h1:l<=h) (h2:h<=rows.length) (h3:h<=m) (_hm:m<=cap)
  (hf:full'=true->m=h):cS w own (.sl full' ((rows.take h).drop l)) (.slice (if m=l then a else a.map (·.add (l*z))) (h-l) (m-l)):=by
 by_cases he:h=l
 ·subst he;have:(rows.take h).drop h=[]:=by simp[List.drop_eq_nil_iff]
  rw[this,Nat.sub_self];refine .dF full' _ _ (λe=>by have:=hf e;omega) (λe=>?_);split at e
  ·omega
  ·have ha:a=none:=by simpa using e
   subst ha;cases hr with
   | dF _ _ _ _ hn=>have:=hn rfl;omega
 ·cases hr with
  | dF=>simp at h2;omega
  | sl _ _ sz b o _ f g1 g2 g3 g4 g45 g5 g6 g7 g8 =>
   have hpos:0<rows.length:=by omega
   have hsz:sz=z:=by
    cases rows with
    | nil=>simp at hpos
    | cons r rs=>simp[MR] at hz;rw[<-g5 r (by simp)];exact hz
   subst hsz;rw[if_neg (by omega)];have hlen:h-l=((rows.take h).drop l).length:=by simp;omega
   simp only[Option.map_some,Addr.add_lit];rw[hlen];have hget:∀ i (hi:i<((rows.take h).drop l).length),((rows.take h).drop l)[i]=rows[l+i]'(by simp at hi;omega):=by
    simp
   refine .sl full' _ sz b (o+l*sz) (m-l) (λi j=>f (l+i) j) (by omega) (by omega) (λe=>by have:=hf e;omega) g4 g45 (λr hr=>?_) g6 (λi j hi hj=>?_) (λi j hi hj=>?_)
   ·exact g5 r (List.mem_of_mem_take (List.mem_of_mem_drop hr))
   ·have:=g7 (l+i) j (by omega) hj;rw[Nat.add_mul,<-Nat.add_assoc] at this;exact this
   ·have hj':=hj;simp_all
end
section
variable {cx : Cx} {ρ : Nat -> Option Loc} {σ : Nat -> Option bL} {n : Nat} {w : World}
variable {l:Loc}
def Inv.width (h:Inv cx ρ σ n w) {k z:Nat} (hk:kF σ k z=true) (hl:ρ k=some l):l.sz=z:=by
 unfold kF at hk;split at hk
 ·rename_i r rs hb;obtain ⟨l',c,hl',_,_,hx⟩:=h.rows hb (by simp);rw[hl] at hl';cases hl';rw[<-hx.width r (by simp)];simp_all
 ·cases hk
def Inv.qA (h:Inv cx ρ σ n w) {k:Nat} {rs:List (List D)} (hk:(σ k).bind fJ=some rs) (hl:ρ k=some l):rs.length=l.L:=by
 by_cases hne:rs=[]
 ·simp only[Option.bind_eq_some_iff] at hk;obtain ⟨x,hx,hr⟩:=hk;obtain ⟨l',hl',hb⟩:=h.boxes k x hx;rw[hl] at hl';cases hl';rcases Nat.eq_zero_or_pos (l.L+l.C) with h0|h0
  ·simp_all
  ·obtain ⟨o,_,hb⟩:=hb.1 h0;cases hb with
   | rows _ rs' c hr' _ hb=>rw[hr] at hr';cases hr';exact hb.uX
   | _=>simp[fJ] at hr
 ·obtain ⟨l',c,hl',_,_,hx⟩:=h.rows hk hne;rw[hl] at hl';cases hl';exact hx.uX
def Inv.BMH (h:Inv cx ρ σ n w) {k:Nat} {ro:Bool} {z:Nat} {rows:List (List T)} (hk:σ k=some (.arr ro z rows)) (hl:ρ k=some l) (hL:0<l.L+l.C):l.sz=z:=by
 obtain ⟨l',hl',hb⟩:=h.boxes k _ hk;rw[hl] at hl';cases hl';obtain ⟨o,_,hb⟩:=hb.1 hL;cases hb with
 | rows _ _ _ _ hz _=>exact hz _ _ _ rfl
def A3T (hI:Inv cx ρ σ n w) {t:TypeId} {d r:D} {x:Value} {lo hi mx:Option D} {vlo vhi vmx:Option Value} (hx:Rd w (bY cx ρ σ) ρ d x) (hlo:RdO w (bY cx ρ σ) ρ lo vlo) (hhi:RdO w (bY cx ρ σ) ρ hi vhi) (hmx:RdO w (bY cx ρ σ) ρ mx vmx)
  (h:lU cx.P σ t d lo hi mx=some r):∃ v,(Instr.sliceAt t x vlo vhi vmx).run cx.P w = .ok v w/\Rd w (bY cx ρ σ) ρ r v:=by
 unfold lU at h;split at h
 ·rename_i e hel;have hu:=jV hel;split at h
  ·rename_i z hz;split at h
   ·rename_i k;split at h
    ·rename_i _ _ rs hk;have hv:vmx=none:=by cases vmx<;>simp_all[RdO]
     subst hv;split at h
     ·rename_i hh hb1;split at h
      ·rename_i ll hb2;cases hx with
       | own _ l hl h0 hc1 hc2 =>
        have hL:=hI.qA hk hl;rw[hL] at hb1;obtain ⟨hrun,h1,h2⟩:=pJ (P:=cx.P) true (len:=l.L) (cap:=l.C) hc1 hlo hhi hb1 hb2;have hrun':∀ y,y=(.slice (if l.C=ll then some ⟨l.bV,0,none⟩ else some ⟨l.bV,ll*z,none⟩) (hh-ll) (l.C-ll):Value)->(Instr.sliceAt t (.slice (some ⟨l.bV,0,none⟩) l.L l.C) vlo vhi none).run cx.P w = .ok y w:=by
         rintro y rfl;simp[Instr.sliceAt,run_underlying hu,Instr.slice,hrun,run_sizeOf? w hz,Addr.add_lit]
        split at h
        ·rename_i e1;cases h;subst e1;refine ⟨_,hrun' _ rfl,.p _ _ ?_⟩;rw[Nat.sub_self];exact .dF false _ _ (by simp) (by split<;>simp)
        ·rename_i hne;split at h
         ·rename_i hw;cases h;have hz':=hI.width hw hl;refine ⟨.slice (some ⟨l.bV,ll*l.sz,none⟩) (hh-ll) (l.C-ll),hrun' _ ?_,.bs _ _ _ l hl (by omega) hc2⟩;rw[if_neg (by omega),hz']
         ·cases h
       | eW _ l a hl h0 =>
        have hL:=hI.qA hk hl;rw[hL,show l.L=0 by omega] at hb1;obtain ⟨hrun,h1,h2⟩:=pJ (P:=cx.P) true (len:=0) (cap:=0) (al _) hlo hhi hb1 hb2;have e1:hh=0:=by omega
        have e2:ll=0:=by omega
        subst e1 e2;simp only[if_true] at h;cases h;refine ⟨.slice a 0 0,?_,.p _ _ (.dF false a 0 (by simp) (by simp))⟩;simp[Instr.sliceAt,run_underlying hu,Instr.slice,hrun,run_sizeOf? w hz]
      ·cases h
     ·cases h
    ·cases h
   ·rename_i k off len;split at h
    ·cases h
    ·have hv:vmx=none:=by cases vmx<;>simp_all[RdO]
     subst hv;split at h
     ·rename_i hh hb1;split at h
      ·rename_i ll hb2;cases hx with
       | bs _ _ _ l hl hc1 hc2 =>
       obtain ⟨hrun,h1,h2⟩:=pJ (P:=cx.P) true (len:=len) (cap:=l.C-off) (by omega) hlo hhi hb1 hb2;have hrun':∀ y,y=(.slice (if l.C-off=ll then some ⟨l.bV,off*l.sz,none⟩ else some ⟨l.bV,off*l.sz+ll*z,none⟩) (hh-ll) (l.C-off-ll):Value)->(Instr.sliceAt t (.slice (some ⟨l.bV,off*l.sz,none⟩) len (l.C-off)) vlo vhi none).run cx.P w = .ok y w:=by
        rintro y rfl;simp[Instr.sliceAt,run_underlying hu,Instr.slice,hrun,run_sizeOf? w hz,Addr.add_lit]
       split at h
       ·rename_i e1;cases h;subst e1;refine ⟨_,hrun' _ rfl,.p _ _ ?_⟩;rw[Nat.sub_self];exact .dF false _ _ (by simp) (by split<;>simp)
       ·rename_i hne;split at h
        ·rename_i hw;cases h;have hz':=hI.width hw hl;refine ⟨.slice (some ⟨l.bV,(off+ll)*l.sz,none⟩) (hh-ll) (l.C-(off+ll)),hrun' _ ?_,.bs _ _ _ l hl (by omega) hc2⟩;rw[if_neg (by omega),hz',Nat.add_mul,Nat.sub_sub]
        ·cases h
      ·cases h
     ·cases h
   ·rename_i tt;split at h
    ·rename_i full rows hrows;cases hx with
     | p _ _ hx =>
     have hsl:=oA hx hrows;obtain ⟨a,cap,rfl,hc1,hc2,hc3⟩:=hsl.isSlice;split at h
     ·rename_i hok;split at h
      ·have hv:vmx=none:=by cases vmx<;>simp_all[RdO]
       subst hv;split at h
       ·rename_i hh hb1;split at h
        ·rename_i ll hb2;cases h;obtain ⟨hrun,h1,h2⟩:=pJ (P:=cx.P) true (len:=rows.length) (cap:=cap) hc1 hlo hhi hb1 hb2;refine ⟨_,?_,.p _ _ (hsl.cut (m:=cap) hok h1 h2 (by omega) (al _) (λe=>?_))⟩
         ·simp[Instr.sliceAt,run_underlying hu,Instr.slice,hrun,run_sizeOf? w hz]
         ·simp at e;have:=hc2 e.1;omega
        ·cases h
       ·cases h
      ·rename_i m;split at h
       ·rename_i _ _ mm hid hbm;split at h
        ·rename_i hh hb1;split at h
         ·rename_i ll hb2;cases h
          match vmx,hmx,vhi,hhi with
          | some vm,hmx,some vh,hhi =>
          have hbm':qW (some m) 0 cap=some mm:=by
           unfold qW at hbm ⊢;split at hbm<;>first|(rename_i e;cases e;done)|skip
           ·rename_i e;cases e;split at hbm
            ·rename_i hok';rw[if_pos ⟨hok'.1,by omega⟩];exact hbm
            ·cases hbm
           ·cases hbm
          have r1:=nM (P:=cx.P) hmx hbm' .slice3Acap;have r1':=(nM (P:=cx.P) hmx hbm .slice3Acap).2;have r2:=nM (P:=cx.P) hhi hb1 .slice3B;have r3:ll<=hh/\(match vlo with|some v=>Instr.sliceBound v hh .slice3C|none=>pure 0:Sem Nat).run cx.P w = .ok ll w:=by
           match lo,vlo,hlo with
           | none,none,_ =>
            obtain ⟨rfl,h3⟩:=S8 hb2;exact ⟨h3,by simp⟩
           | some d,some v,hlo=>exact ⟨(nM (P:=cx.P) hlo hb2 .slice3C).2,(nM hlo hb2 .slice3C).1⟩
          have hrun:(Instr.sliceBounds true rows.length cap vlo (some vh) (some vm)).run cx.P w = .ok (ll,hh,mm) w:=by
           unfold Instr.sliceBounds;obtain ⟨_,r3⟩:=r3;cases vlo<;>simp only[Sem.run_pure] at r3<;>first
            | (cases r3;simp only[Sem.run_bind,Sem.run_pure,Result.andThen_ok,r1.1,r2.1,if_true];done)
            | (simp only[Sem.run_bind,Sem.run_pure,Result.andThen_ok,r1.1,r2.1,r3,if_true,Option.isSome_some];done)
          refine ⟨_,?_,.p _ _ (hsl.cut (m:=mm) hok r3.1 (by omega) r2.2 (by omega) (λe=>by simp at e;omega))⟩;simp[Instr.sliceAt,run_underlying hu,Instr.slice,hrun,run_sizeOf? w hz]
         ·cases h
        ·cases h
       ·cases h
     ·cases h
    ·cases h
   ·cases h
  ·cases h
 ·split at h
  ·rename_i s hu;have hv:vmx=none:=by cases vmx<;>simp_all[RdO]
   subst hv;split at h
   ·rename_i hh hb1;split at h
    ·rename_i ll hb2;cases h;cases hx with
     | p _ _ hx =>
     cases hx;obtain ⟨hrun,h1,h2⟩:=pJ (P:=cx.P) false (len:=s.size) (cap:=s.size) (al _) hlo hhi hb1 hb2;exact ⟨_,by simp[Instr.sliceAt,run_underlying hu,Instr.slice,hrun],.p _ _ (.v _)⟩
    ·cases h
   ·cases h
  ·cases h
end
end Go.Pv
