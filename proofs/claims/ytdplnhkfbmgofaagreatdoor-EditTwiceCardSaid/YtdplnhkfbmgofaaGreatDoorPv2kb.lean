/-
  The symbolic executor, part b: operations.
-/
import Derived.Test.YtdplnhkfbmgofaaGreatDoorPv2ka
set_option linter.defProp false
set_option linter.unusedSimpArgs false
namespace Go.Pv
open Go Go.RowKit
section
variable (C : Combs) (P : Program) (E : Env)
def sB (c:Nat) (x:Option D) (K:D→Prop):Prop:=match x with
 | some d=>K d
 | none=>C.bad c
def Sy.isAny:Sy→Bool
 | .any=>true
 | _=>false
def BQ (j:Int) (K:Int→Prop):Nat→Nat→Prop
 | 0,_=>C.bad 18
 | n+1,i=>aB (decide (j=Int.ofNat i)) (K (Int.ofNat i)) (BQ j K n (i+1))
def A4U (σ:Nat→Option bE) (t:TypeId) (d i:D) (K:D→Prop):Prop :=
 match i,mU P t with
 | .p (.v (.int _ j)),some e =>
  match tsz? P e,AFH P e with
  | some z,some r =>
   match r.isAny with
   | true=>sB C 17 (cV P σ t d i) K
   | false =>
   match r.w == z,d with
   | true,.p tt=>match eN tt with
    | some (_,rows)=>C.rows r rows j fun y=>K (.p (.ref (r.enc y)))
    | none=>C.bad 11
   | true,.own k=>match σ k with
    | some (.arr _ _ rows)=>C.rows r rows j fun _=>K (.ptr k j.toNat 0)
    | _=>sB C 12 (cV P σ t d i) K
   | true,.bs k off len=>match σ k with
    | some (.arr _ _ rows)=>C.EK (decide (0≤j)&&decide (j.toNat<len)) (C.rows r rows (off+j.toNat:Nat) fun _=>K (.ptr k (off+j.toNat) 0))
    | _=>sB C 13 (cV P σ t d i) K
   | _,_=>C.bad 14
  | _,_=>C.bad 15
 | .p (.v (.int kk j)),none=>match VD P t with
  | some (m,_)=>match decide (m≤8) with
   | true=>BQ C j (fun j=>sB C 19 (cV P σ t d (.p (.v (.int kk j)))) K) m 0
   | false=>sB C 16 (cV P σ t d i) K
  | none=>sB C 16 (cV P σ t d i) K
 | _,_=>sB C 16 (cV P σ t d i) K
def AT5 (σ:Nat→Option bE) (t:TypeId) (d:D) (K:D→Prop):Prop :=
 match d with
 | .ptr k i o=>match σ k with
  | some (.arr _ _ rows)=>match AFH P t,yB P t,tsz? P t with
   | some r,some ag,some n=>match r.w == n&&(ag||n == 1) with
    | true=>C.part r rows i o fun y=>K (.p (aH ag r y))
    | false=>C.bad 21
   | _,_,_=>C.bad 22
  | _=>sB C 23 (vZ P σ t d) K
 | _=>sB C 24 (vZ P σ t d) K
def A3D (op:BinOp) (t:TypeId) (x y:D) (K:D→Prop):Prop :=
 match op with
 | .quo=>match x,y with
  | .p (.v (.int k a)),.p (.v (.int k' b))=>match decide (k=k') with
   | true=>C.EK (!decide (b=0)) (K (.p (.v (.int k (k.wrap (a.tdiv b))))))
   | false=>C.bad 31
  | _,_=>C.bad 32
 | .rem=>match x,y with
  | .p (.v (.int k a)),.p (.v (.int k' b))=>match decide (k=k') with
   | true=>C.EK (!decide (b=0)) (K (.p (.v (.int k (a.tmod b)))))
   | false=>C.bad 33
  | _,_=>C.bad 34
 | .add=>match x,y with
  | .p (.v (.string a)),.p (.v (.string b))=>C.EK (decide (((a.size+b.size:Nat):Int)≤9223372036854775807)) (K (.p (.v (.string (a++b)))))
  | _,_=>sB C 35 (RC P .add t x y) K
 | op=>sB C 36 (RC P op t x y) K
def M7 (d:Option D) (dflt:Nat):Option (Nat×Bool):=match d with
 | none=>some (dflt,true)
 | some (.p (.v (.int _ i)))=>some (i.toNat,decide (0≤i))
 | _=>none
def AEV (σ:Nat→Option bE) (t:TypeId) (d:D) (lo hi mx:Option D) (K:D→Prop):Prop :=
 match mx with
 | some _=>sB C 41 (jU P σ t d lo hi mx) K
 | none=>match mU P t with
  | some e=>match tsz? P e with
   | some z=>match d with
    | .p tt=>match eN tt with
     | some (full,rows)=>match M7 hi rows.length,M7 lo 0 with
      | some (h,bh),some (l,bl)=>C.EK (EF z rows&&(bh&&decide (h≤rows.length))&&(bl&&decide (l≤h))) (K (.p (.sl (full&&decide (h=rows.length)) ((rows.take h).drop l))))
      | _,_=>C.bad 42
     | none=>C.bad 43
    | .own k=>match σ k with
     | some (.arr _ _ rows)=>match M7 hi rows.length,M7 lo 0 with
      | some (h,bh),some (l,bl)=>C.EK ((bh&&decide (h≤rows.length))&&(bl&&decide (l≤h))) (aB (decide (h=l)) (K (.p (.sl false []))) (C.EK (jL σ k z) (K (.bs k l (h-l)))))
      | _,_=>C.bad 44
     | _=>sB C 45 (jU P σ t d lo hi mx) K
    | .bs k off len=>match M7 hi len,M7 lo 0 with
     | some (h,bh),some (l,bl)=>C.EK ((bh&&decide (h≤len))&&(bl&&decide (l≤h))) (aB (decide (h=l)) (K (.p (.sl false []))) (C.EK (jL σ k z) (K (.bs k (off+l) (h-l)))))
     | _,_=>C.bad 46
    | _=>C.bad 47
   | none=>C.bad 48
  | none=>match P.underlying t,d with
   | some .string,.p (.v (.string s))=>match M7 hi s.size,M7 lo 0 with
    | some (h,bh),some (l,bl)=>C.EK ((bh&&decide (h≤s.size))&&(bl&&decide (l≤h))) (K (.p (.v (.string (s.extract l h)))))
    | _,_=>C.bad 49
   | _,_=>sB C 50 (jU P σ t d lo hi mx) K
def AQY (t:TypeId) (d i:D) (K:D→Prop):Prop :=
 match i,d,P.underlying t with
 | .p (.v (.int _ j)),.p (.v (.string s)),some .string=>C.byte s j fun b=>K (.p (.v (.int .u8 b)))
 | _,_,_=>sB C 51 (D7 P t d i) K
def AT6 (σ:Nat→Option bE) (t:TypeId) (x i:D) (ok:Bool) (K:D→Prop):Prop :=
 match P.underlying t with
 | some (.map kt et) =>
  match s0 P kt,i,tz? P et with
  | some kd,.p (.v k),some z =>
   match zV kd k,x with
   | true,.map m =>
    match σ m with
    | some (.map _ es)=>match yB P et,AFH P et with
     | some ag,some r=>C.find kd k es ag r (K (match ok with|true=>HH (.p (.v z)) (.v (.bool false))|false=>.p (.v z)))
       fun _ y=>K (match ok with|true=>.p (.cC [aH ag r y,.v (.bool true)])|false=>.p (aH ag r y))
     | _,_=>C.bad 61
    | _=>C.bad 62
   | true,.p (.mp es)=>match yB P et,AFH P et with
    | some ag,some r=>C.find kd k (pL es) ag r (K (match ok with|true=>HH (.p (.v z)) (.v (.bool false))|false=>.p (.v z)))
      fun _ y=>K (match ok with|true=>.p (.cC [aH ag r y,.v (.bool true)])|false=>.p (aH ag r y))
    | _,_=>C.bad 66
   | _,_=>sB C 63 (tZ P σ t x i ok) K
  | _,_,_=>C.bad 64
 | _=>C.bad 65
def vA:Sy→Bool
 | .int _=>true
 | .bool=>true
 | .str=>true
 | .pr a b=>vA a&&vA b
 | _=>false
def A9E (fid:FuncId):Option Sh:=match P.funcs[fid]? with
 | some fn=>shL P fn.resultTypes.toList
 | none=>none
def AQ0 (σ:Nat→Option bE) (n:Nat) (f:D) (args:List D) (K:D→Prop):Prop :=
 match jD f with
 | some (fid,a,b)=>match E fid,A9E P fid with
  | some (.pure g),some s=>match pM (a++args++b) with
   | some ts=>C.call s (g ts) fun y=>K (.p (Sh.enc s y))
   | none=>match (a++args++b).mapM (iC σ 4),s.all (fun x=>vA x.2) with
    | some ts,true=>C.call s (g ts) fun y=>K (.p (Sh.enc s y))
    | _,_=>C.bad 71
  | some (.read g),some s=>C.call s (g (a++args++b) σ n) fun y=>K (.p (Sh.enc s y))
  | some (.new g),some s=>match (a++args++b).mapM (iC σ 4) with
   | some ts=>C.call s (g ts) fun y=>K (.p (Sh.enc s y))
   | none=>C.bad 74
  | some (.AJU g),some _=>match (a++args++b).mapM (iC σ 4) with
   | some ts=>C.opt (List (ByteArray×Int)) (g ts) fun es=>K (.p (.mp (bJ es)))
   | none=>C.bad 75
  | some (.ext g),some s=>match pM (a++args++b) with
   | some ts=>C.call s (g ts) fun y=>K (.p (Sh.enc s y))
   | none=>C.bad 76
  | _,_=>C.bad 72
 | none=>C.bad 73
def ADR (t:TypeId) (len cap:D) (K:D→Prop):Prop :=
 match mU P t with
 | some e =>
  match tsz? P e,tby? P e,tz? P e,len,cap with
  | some z,some by_,some zv,.p (.v (.int _ a)),.p (.v (.int _ b)) =>
   match decide (0<z)&&zv.cells.size == z&&zv.cells.all Value.oneCell' with
   | true=>C.EK (decide (a=b)&&decide (0≤b)&&decide (b*by_≤140737488355328)&&decide (b≤140737488355328)) (K (.p (.sl false (List.replicate a.toNat (zv.cells.toList.map .v)))))
   | false=>C.bad 18
  | _,_,_,_,_=>C.bad 19
 | none=>C.bad 20
def qvS (n:Nat) (σ:Nat→Option bE) (s₀ s:Nat→D) (op:Op) (K:D→Prop):Prop :=
 match op with
 | .indexAddr t x i=>A4U C P σ t (ev s x) (ev s i) K
 | .makeSlice t l c=>ADR C P t (ev s l) (ev s c) K
 | .load t a=>AT5 C P σ t (ev s a) K
 | .binOp op t x y _=>A3D C P op t (ev s x) (ev s y) K
 | .slice t x lo hi mx=>AEV C P σ t (ev s x) (lo.map (ev s)) (hi.map (ev s)) (mx.map (ev s)) K
 | .index t x i=>AQY C P t (ev s x) (ev s i) K
 | .lookup t x i ok=>AT6 C P σ t (ev s x) (ev s i) ok K
 | .call c=>match c.callee with
  | .value f=>AQ0 C P E σ n (ev s f) (c.args.toList.map (ev s)) K
  | _=>sB C 81 (qv P E n σ s₀ s true op) K
 | op=>sB C 82 (qv P E n σ s₀ s true op) K
end
section
variable {P : Program} {E : Env}
theorem c0 {c:Nat} {x:Option D} {K:D→Prop} (h:sB pP c x K):∃ d,x=some d∧K d:=by
 unfold sB at h
 split at h
 ·exact ⟨_,rfl,h⟩
 ·exact h.elim
theorem ALG (l:List T):PE (l.map .p) = .p (.agg l):=by unfold PE;rw[U5]
theorem yJ {j:Int} {K:Int→Prop}:∀ {n i:Nat},BQ pP j K n i→∃ q,j=q∧K q
 | 0,_,h=>h.elim
 | n+1,i,h=>by
  unfold BQ at h
  cases hd:decide (j=Int.ofNat i) with
  | true=>rw[hd] at h;exact ⟨_,of_decide_eq_true hd,h⟩
  | false=>rw[hd] at h;exact yJ (n:=n) (i:=i+1) h
theorem AKX {σ:Nat→Option bE} {t:TypeId} {d i:D} {K:D→Prop} (h:A4U pP P σ t d i K):∃ r,cV P σ t d i=some r∧K r:=by
 unfold A4U at h
 split at h
 ·rename_i kk j e he
  split at h
  ·rename_i z r hz hr
   split at h
   ·exact c0 h
   split at h
   ·rename_i tt hw
    have hw:r.w=z:=by simpa using hw
    split at h
    ·rename_i f rows hrows
     obtain ⟨y,h0,h1,h2⟩:=h
     refine ⟨_,?_,h2⟩
     unfold cV
     have:¬ j<0:=by omega
     simp only[this,if_false,he,hz,hrows,h1,Sy.dD,hw,if_true]
    ·exact h.elim
   ·rename_i k hw
    have hw:r.w=z:=by simpa using hw
    split at h
    ·rename_i ro zz rows hσ
     obtain ⟨y,h0,h1,h2⟩:=h
     refine ⟨_,?_,h2⟩
     unfold cV
     have:¬ j<0:=by omega
     have hR:(σ k).bind dJ=some (aV rows):=by rw[hσ];rfl
     simp only[this,if_false,he,hz,hR,pRows_get?,h1,Option.map_some,List.length_map,Sy.dD,hw,if_true]
    ·exact c0 h
   ·rename_i k off len hw
    have hw:r.w=z:=by simpa using hw
    split at h
    ·rename_i ro zz rows hσ
     obtain ⟨hb,y,h0,h1,h2⟩:=h
     simp only[Bool.and_eq_true,decide_eq_true_eq] at hb
     refine ⟨_,?_,h2⟩
     unfold cV
     have:¬ j<0:=by omega
     have hR:(σ k).bind dJ=some (aV rows):=by rw[hσ];rfl
     simp only[Int.toNat_natCast] at h1
     simp only[this,if_false,he,hz,hb.2,if_true,hR,pRows_get?,h1,Option.map_some,List.length_map,Sy.dD,hw,if_true]
    ·exact c0 h
   ·exact h.elim
  ·exact h.elim
 ·split at h
  ·split at h
   ·obtain ⟨_,rfl,h⟩:=yJ h
    exact c0 h
   ·exact c0 h
  ·exact c0 h
 ·exact c0 h
theorem ADO {σ:Nat→Option bE} {t:TypeId} {d:D} {K:D→Prop} (h:AT5 pP P σ t d K):∃ r,vZ P σ t d=some r∧K r:=by
 unfold AT5 at h
 split at h
 ·rename_i k i o
  split at h
  ·rename_i ro zz rows hσ
   split at h
   ·rename_i r ag n hr hag hn
    split at h
    ·rename_i hw
     simp only[Bool.and_eq_true,beq_iff_eq,Bool.or_eq_true] at hw
     obtain ⟨row,y,h1,h2,h3,h4⟩:=h
     refine ⟨_,?_,h4⟩
     have hR:(σ k).bind dJ=some (aV rows):=by rw[hσ];rfl
     unfold vZ
     simp only[hag,hn,hR,pRows_get?,h1,Option.map_some]
     cases ag with
     | true =>
      have:o+n≤(row.map D.p).length:=by simp;omega
      simp only[if_true,this]
      rw[←List.map_drop,←List.map_take,←hw.1,h3,ALG]
      rfl
     | false =>
      have hn1:n=1:=by simpa using hw.2
      have hw1:r.w=1:=by omega
      have hl:(r.enc y).length=1:=by rw[Sy.dD];exact hw1
      obtain ⟨x,hx⟩:=List.length_eq_one_iff.1 hl
      have:row[o]? = some x:=by
       have h5:((row.drop o).take r.w)[0]? = some x:=by rw[h3,hx];rfl
       rw[hw1] at h5
       simpa [List.getElem?_take,List.getElem?_drop] using h5
      simp only[Bool.false_eq_true,if_false,List.getElem?_map,this,Option.map_some,aH,hx,hdT]
    ·exact h.elim
   ·exact h.elim
  ·exact c0 h
 ·exact c0 h
theorem AJB {op:BinOp} {t:TypeId} {x y:D} {K:D→Prop} (h:A3D pP P op t x y K):∃ r,RC P op t x y=some r∧K r:=by
 unfold A3D at h
 split at h
 ·split at h
  ·rename_i k a k' b
   split at h
   ·rename_i hk
    have hk:=of_decide_eq_true hk
    subst hk
    obtain ⟨hb,h⟩:=h
    have hb:¬ b=0:=by simpa using hb
    exact ⟨_,by simp[RC,AY,VI,AJC,SD,hb],h⟩
   ·exact h.elim
  ·exact h.elim
 ·split at h
  ·rename_i k a k' b
   split at h
   ·rename_i hk
    have hk:=of_decide_eq_true hk
    subst hk
    obtain ⟨hb,h⟩:=h
    have hb:¬ b=0:=by simpa using hb
    exact ⟨_,by simp[RC,AY,VI,AJC,SD,hb],h⟩
   ·exact h.elim
  ·exact h.elim
 ·split at h
  ·rename_i a b
   obtain ⟨hb,h⟩:=h
   have hb:((a.size+b.size:Nat):Int)≤9223372036854775807:=of_decide_eq_true hb
   exact ⟨_,by simp only[RC,AY,VI,AJC,AFF,if_pos hb,Option.map_some],h⟩
  ·exact c0 h
 ·exact c0 h
theorem fI {d:Option D} {dflt m hi:Nat} {b:Bool} (h:M7 d dflt=some (m,b)) (hb:(b&&decide (m≤hi))=true):nV d dflt hi=some m:=by
 simp only[Bool.and_eq_true,decide_eq_true_eq] at hb
 unfold M7 at h
 split at h
 ·cases h;simp[nV,hb.2]
 ·rename_i k i
  cases h
  have h0:0≤i:=of_decide_eq_true hb.1
  have h1:i≤hi:=by have:=hb.2;omega
  simp[nV,h0,h1]
 ·cases h
theorem ZA {σ:Nat→Option bE} {t:TypeId} {d:D} {lo hi mx:Option D} {K:D→Prop} (h:AEV pP P σ t d lo hi mx K):∃ r,jU P σ t d lo hi mx=some r∧K r:=by
 unfold AEV at h
 split at h
 ·exact c0 h
 ·split at h
  ·rename_i e he
   split at h
   ·rename_i z hz
    split at h
    ·rename_i tt
     split at h
     ·rename_i full rows hrows
      split at h
      ·rename_i hN bh lN bl h1 h2
       obtain ⟨hb,h⟩:=h
       rw[Bool.and_eq_true,Bool.and_eq_true] at hb
       refine ⟨_,?_,h⟩
       unfold jU
       simp only[he,hz,hrows,hb.1.1,if_true,fI h1 hb.1.2,fI h2 hb.2]
      ·exact h.elim
     ·exact h.elim
    ·rename_i k
     split at h
     ·rename_i ro zz rows hσ
      split at h
      ·rename_i hN bh lN bl h1 h2
       obtain ⟨hb,h⟩:=h
       rw[Bool.and_eq_true] at hb
       have hR:(σ k).bind dJ=some (aV rows):=by rw[hσ];rfl
       rw[r8] at h
       by_cases heq:hN=lN
       ·refine ⟨_,?_,h.1 (by simpa using heq)⟩
        unfold jU
        simp only[he,hz,hR,bQ,fI h1 hb.1,fI h2 hb.2];rw[if_pos heq]
       ·obtain ⟨hw,hk⟩:=h.2 (by simpa using heq)
        refine ⟨_,?_,hk⟩
        unfold jU
        simp only[he,hz,hR,bQ,fI h1 hb.1,fI h2 hb.2];rw[if_neg heq,if_pos hw]
      ·exact h.elim
     ·exact c0 h
    ·rename_i k off len
     split at h
     ·rename_i hN bh lN bl h1 h2
      obtain ⟨hb,h⟩:=h
      rw[Bool.and_eq_true] at hb
      rw[r8] at h
      by_cases heq:hN=lN
      ·refine ⟨_,?_,h.1 (by simpa using heq)⟩
       unfold jU
       simp only[he,hz,fI h1 hb.1,fI h2 hb.2];rw[if_pos heq]
      ·obtain ⟨hw,hk⟩:=h.2 (by simpa using heq)
       refine ⟨_,?_,hk⟩
       unfold jU
       simp only[he,hz,fI h1 hb.1,fI h2 hb.2];rw[if_neg heq,if_pos hw]
     ·exact h.elim
    ·exact h.elim
   ·exact h.elim
  ·rename_i he
   split at h
   ·rename_i s hu
    split at h
    ·rename_i hN bh lN bl h1 h2
     obtain ⟨hb,h⟩:=h
     rw[Bool.and_eq_true] at hb
     refine ⟨_,?_,h⟩
     unfold jU
     simp only[he,hu,fI h1 hb.1,fI h2 hb.2]
    ·exact h.elim
   ·exact c0 h
theorem AB2 {t:TypeId} {d i:D} {K:D→Prop} (h:AQY pP P t d i K):∃ r,D7 P t d i=some r∧K r:=by
 unfold AQY at h
 split at h
 ·rename_i kk j s hu
  obtain ⟨b,h0,h1,h2⟩:=h
  refine ⟨_,?_,h2⟩
  unfold D7
  have:¬ j<0:=by omega
  simp only[this,if_false,hu,h1,Option.map_some]
 ·exact c0 h
theorem ADQ {σ:Nat→Option bE} {t:TypeId} {x i:D} {ok:Bool} {K:D→Prop} (h:AT6 pP P σ t x i ok K):∃ r,tZ P σ t x i ok=some r∧K r:=by
 unfold AT6 at h
 split at h
 ·rename_i kt et hu
  split at h
  ·rename_i kd k z hk hz
   split at h
   ·rename_i m hkey
    split at h
    ·rename_i ro es hσ
     split at h
     ·rename_i ag r hag hr
      rcases h with ⟨h1,h2⟩|⟨i,y,h1,h2⟩
      ·refine ⟨_,?_,h2⟩
       unfold tZ
       simp only[hu,hk,hz,hkey,hσ,h1]
       cases ok<;>rfl
      ·refine ⟨_,?_,h2⟩
       unfold tZ
       simp only[hu,hk,hz,hkey,hσ,h1]
       cases ok<;>rfl
     ·exact h.elim
    ·exact h.elim
   ·rename_i es hkey
    split at h
    ·rename_i ag r hag hr
     rcases h with ⟨h1,h2⟩|⟨i,y,h1,h2⟩
     ·refine ⟨_,?_,h2⟩
      unfold tZ
      simp only[hu,hk,hz,hkey,h1]
      cases ok<;>rfl
     ·refine ⟨_,?_,h2⟩
      unfold tZ
      simp only[hu,hk,hz,hkey,h1]
      cases ok<;>rfl
    ·exact h.elim
   ·exact c0 h
  ·exact h.elim
 ·exact h.elim
theorem sO:∀ (r:Sy),vA r=true→∀ (x:r.den) (n:Nat),(r.enc x).all (T.qA n)=true
 | .int _,_,x,n=>by cases n<;>simp[Sy.enc,T.qA]
 | .bool,_,x,n=>by cases n<;>simp[Sy.enc,T.qA]
 | .str,_,x,n=>by cases n<;>simp[Sy.enc,T.qA]
 | .pr a b,h,x,n=>by
  simp only[vA,Bool.and_eq_true] at h
  simp only[Sy.enc,List.all_append,Bool.and_eq_true]
  exact ⟨sO a h.1 x.1 n,sO b h.2 x.2 n⟩
theorem DQ {ag:Bool} {r:Sy} (h:vA r=true) (x:r.den) (n:Nat):T.qA (n+1) (aH ag r x)=true:=by
 have:=sO r h x (n+1)
 cases ag with
 | true=>exact sO r h x n
 | false =>
  simp only[aH]
  cases he:r.enc x with
  | nil=>rfl
  | cons a l=>rw[he] at this;simp only[List.all_cons,Bool.and_eq_true] at this;exact this.1
theorem N2:∀ (s:Sh),s.all (fun x=>vA x.2)=true→∀ (y:Sh.den s) (n:Nat),(Sh.lW s y).all (T.qA (n+1))=true
 | [],_,_,_=>rfl
 | [a],h,y,n=>by
  simp only[List.all_cons,List.all_nil,Bool.and_true] at h
  simp only[Sh.lW,List.all_cons,List.all_nil,Bool.and_true]
  exact DQ h y n
 | a::b::l,h,y,n=>by
  rw[List.all_cons,Bool.and_eq_true] at h
  simp only[Sh.lW,List.all_cons,Bool.and_eq_true] at *
  have:=N2 (b::l) (by rw[List.all_cons,Bool.and_eq_true];exact h.2) y.2 n
  exact ⟨DQ h.1 y.1 n,this⟩
theorem AZH {s:Sh} (h:s.all (fun x=>vA x.2)=true) (y:Sh.den s):(Sh.enc s y).flat=true:=by
 unfold T.flat
 match s,h,y with
 | [],h,y=>rfl
 | [a],h,y =>
  simp only[List.all_cons,List.all_nil,Bool.and_true] at h
  exact DQ h y 2
 | a::b::l,h,y=>exact N2 (a::b::l) h y 1
theorem AB4 {σ:Nat→Option bE} {n:Nat} {f:D} {args:List D} {K:D→Prop} (h:AQ0 pP P E σ n f args K):∃ r,oT E σ n f args=some r∧K r:=by
 unfold AQ0 at h
 split at h
 ·rename_i fid a b hc
  split at h
  ·rename_i g s hE hs
   split at h
   ·rename_i ts hts
    obtain ⟨y,h1,h2⟩:=h
    refine ⟨_,?_,h2⟩
    unfold oT
    simp only[hc,hE,hts,h1,Option.map_some]
   ·rename_i hts
    split at h
    ·rename_i ts hm hfl
     obtain ⟨y,h1,h2⟩:=h
     refine ⟨_,?_,h2⟩
     unfold oT
     simp only[hc,hE,hts,hm,h1,AZH hfl y,if_true]
    ·exact h.elim
  ·rename_i g s hE hs
   obtain ⟨y,h1,h2⟩:=h
   refine ⟨_,?_,h2⟩
   unfold oT
   simp only[hc,hE,h1,Option.map_some]
  ·rename_i g s hE hs
   split at h
   ·rename_i ts hts
    obtain ⟨y,h1,h2⟩:=h
    refine ⟨_,?_,h2⟩
    unfold oT
    simp only[hc,hE,hts,h1,Option.map_some]
   ·exact h.elim
  ·rename_i g s hE hs
   split at h
   ·rename_i ts hts
    obtain ⟨y,h1,h2⟩:=h
    refine ⟨_,?_,h2⟩
    unfold oT
    simp only[hc,hE,hts,h1,Option.map_some]
   ·exact h.elim
  ·rename_i g s hE hs
   split at h
   ·rename_i ts hts
    obtain ⟨y,h1,h2⟩:=h
    refine ⟨_,?_,h2⟩
    unfold oT
    simp only[hc,hE,hts,h1,Option.map_some]
   ·exact h.elim
  ·exact h.elim
 ·exact h.elim
theorem XT {t:TypeId} {a b:D} {K:D→Prop} (h:ADR pP P t a b K):∃ d,XS P t a b=some d∧K d:=by
 unfold ADR at h
 split at h
 ·rename_i e he
  split at h
  ·rename_i z by_ zv k1 x k2 y hz hby hzv
   split at h
   ·rename_i hc
    obtain ⟨hb,hk⟩:=h
    refine ⟨_,?_,hk⟩
    simp only[XS,he,hz,hby,hzv,hc,hb,Bool.and_self]
   ·exact h.elim
  ·exact h.elim
 ·exact h.elim
theorem AVB {n:Nat} {σ:Nat→Option bE} {s₀ s:Nat→D} {op:Op} {K:D→Prop} (h:qvS pP P E n σ s₀ s op K):∃ d,qv P E n σ s₀ s true op=some d∧K d:=by
 unfold qvS at h
 split at h
 ·exact AKX h
 ·exact XT h
 ·exact ADO h
 ·exact AJB h
 ·exact ZA h
 ·exact AB2 h
 ·exact ADQ h
 ·rename_i c
  split at h
  ·rename_i f hf
   obtain ⟨d,h1,h2⟩:=AB4 h
   refine ⟨d,?_,h2⟩
   simp only[qv,hf]
   exact h1
  ·exact c0 h
 ·exact c0 h
end
end Go.Pv
