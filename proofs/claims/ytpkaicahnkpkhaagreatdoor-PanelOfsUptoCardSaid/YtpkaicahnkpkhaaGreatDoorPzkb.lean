/-
  The symbolic executor, part b: operations.
-/
import Derived.Test.YtpkaicahnkpkhaaGreatDoorPzka
set_option linter.unusedSimpArgs false
namespace Go.Pv
open Go Go.RowKit
section
variable (C : Combs) (P : Program) (E : Env)
def p0 (c:Nat) (x:Option D) (K:D→Prop):Prop:=match x with
 | some d=>K d
 | none=>C.bad c
def Sy.isAny:Sy→Bool
 | .any=>true
 | _=>false
def zT (j:Int) (K:Int→Prop):Nat→Nat→Prop
 | 0,_=>C.bad 18
 | n+1,i=>aC (decide (j=Int.ofNat i)) (K (Int.ofNat i)) (zT j K n (i+1))
def AWZ (σ:Nat→Option aY) (t:TypeId) (d i:D) (K:D→Prop):Prop :=
 match i,l6 P t with
 | .p (.v (.int _ j)),some e =>
  match tsz? P e,AG5 P e with
  | some z,some r =>
   match r.isAny with
   | true=>p0 C 17 (cN P σ t d i) K
   | false =>
   match r.w == z,d with
   | true,.p tt=>match eX tt with
    | some (_,rows)=>C.rows r rows j fun y=>K (.p (.ref (r.enc y)))
    | none=>C.bad 11
   | true,.own k=>match σ k with
    | some (.arr _ _ rows)=>C.rows r rows j fun _=>K (.ptr k j.toNat 0)
    | _=>p0 C 12 (cN P σ t d i) K
   | true,.bs k off len=>match σ k with
    | some (.arr _ _ rows)=>C.NZ (decide (0≤j)&&decide (j.toNat<len)) (C.rows r rows (off+j.toNat:Nat) fun _=>K (.ptr k (off+j.toNat) 0))
    | _=>p0 C 13 (cN P σ t d i) K
   | _,_=>C.bad 14
  | _,_=>C.bad 15
 | .p (.v (.int kk j)),none=>match XZ P t with
  | some (m,_)=>match decide (m≤8) with
   | true=>zT C j (fun j=>p0 C 19 (cN P σ t d (.p (.v (.int kk j)))) K) m 0
   | false=>p0 C 16 (cN P σ t d i) K
  | none=>p0 C 16 (cN P σ t d i) K
 | _,_=>p0 C 16 (cN P σ t d i) K
def AQN (σ:Nat→Option aY) (t:TypeId) (d:D) (K:D→Prop):Prop :=
 match d with
 | .ptr k i o=>match σ k with
  | some (.arr _ _ rows)=>match AG5 P t,vV P t,tsz? P t with
   | some r,some ag,some n=>match r.w == n&&(ag||n == 1) with
    | true=>C.part r rows i o fun y=>K (.p (aB ag r y))
    | false=>C.bad 21
   | _,_,_=>C.bad 22
  | _=>p0 C 23 (sZ P σ t d) K
 | _=>p0 C 24 (sZ P σ t d) K
def AWE (op:BinOp) (t:TypeId) (x y:D) (K:D→Prop):Prop :=
 match op with
 | .quo=>match x,y with
  | .p (.v (.int k a)),.p (.v (.int k' b))=>match decide (k=k') with
   | true=>C.NZ (!decide (b=0)) (K (.p (.v (.int k (k.wrap (a.tdiv b))))))
   | false=>C.bad 31
  | _,_=>C.bad 32
 | .rem=>match x,y with
  | .p (.v (.int k a)),.p (.v (.int k' b))=>match decide (k=k') with
   | true=>C.NZ (!decide (b=0)) (K (.p (.v (.int k (a.tmod b)))))
   | false=>C.bad 33
  | _,_=>C.bad 34
 | .add=>match x,y with
  | .p (.v (.string a)),.p (.v (.string b))=>C.NZ (decide (((a.size+b.size:Nat):Int)≤9223372036854775807)) (K (.p (.v (.string (a++b)))))
  | _,_=>p0 C 35 (SF P .add t x y) K
 | op=>p0 C 36 (SF P op t x y) K
def NI (d:Option D) (dflt:Nat):Option (Nat×Bool):=match d with
 | none=>some (dflt,true)
 | some (.p (.v (.int _ i)))=>some (i.toNat,decide (0≤i))
 | _=>none
def AGZ (σ:Nat→Option aY) (t:TypeId) (d:D) (lo hi mx:Option D) (K:D→Prop):Prop :=
 match mx with
 | some _=>p0 C 41 (iL P σ t d lo hi mx) K
 | none=>match l6 P t with
  | some e=>match tsz? P e with
   | some z=>match d with
    | .p tt=>match eX tt with
     | some (full,rows)=>match NI hi rows.length,NI lo 0 with
      | some (h,bh),some (l,bl)=>C.NZ (kQ z rows&&(bh&&decide (h≤rows.length))&&(bl&&decide (l≤h))) (K (.p (.sl (full&&decide (h=rows.length)) ((rows.take h).drop l))))
      | _,_=>C.bad 42
     | none=>C.bad 43
    | .own k=>match σ k with
     | some (.arr _ _ rows)=>match NI hi rows.length,NI lo 0 with
      | some (h,bh),some (l,bl)=>C.NZ ((bh&&decide (h≤rows.length))&&(bl&&decide (l≤h))) (aC (decide (h=l)) (K (.p (.sl false []))) (C.NZ (iF σ k z) (K (.bs k l (h-l)))))
      | _,_=>C.bad 44
     | _=>p0 C 45 (iL P σ t d lo hi mx) K
    | .bs k off len=>match NI hi len,NI lo 0 with
     | some (h,bh),some (l,bl)=>C.NZ ((bh&&decide (h≤len))&&(bl&&decide (l≤h))) (aC (decide (h=l)) (K (.p (.sl false []))) (C.NZ (iF σ k z) (K (.bs k (off+l) (h-l)))))
     | _,_=>C.bad 46
    | _=>C.bad 47
   | none=>C.bad 48
  | none=>match P.underlying t,d with
   | some .string,.p (.v (.string s))=>match NI hi s.size,NI lo 0 with
    | some (h,bh),some (l,bl)=>C.NZ ((bh&&decide (h≤s.size))&&(bl&&decide (l≤h))) (K (.p (.v (.string (s.extract l h)))))
    | _,_=>C.bad 49
   | _,_=>p0 C 50 (iL P σ t d lo hi mx) K
def AO0 (t:TypeId) (d i:D) (K:D→Prop):Prop :=
 match i,d,P.underlying t with
 | .p (.v (.int _ j)),.p (.v (.string s)),some .string=>C.byte s j fun b=>K (.p (.v (.int .u8 b)))
 | _,_,_=>p0 C 51 (D8 P t d i) K
def AQO (σ:Nat→Option aY) (t:TypeId) (x i:D) (ok:Bool) (K:D→Prop):Prop :=
 match P.underlying t with
 | some (.map kt et) =>
  match rB P kt,i,tz? P et with
  | some kd,.p (.v k),some z =>
   match xD kd k,x with
   | true,.map m =>
    match σ m with
    | some (.map _ es)=>match vV P et,AG5 P et with
     | some ag,some r=>C.find kd k es ag r (K (match ok with|true=>GX (.p (.v z)) (.v (.bool false))|false=>.p (.v z)))
       fun _ y=>K (match ok with|true=>.p (.bX [aB ag r y,.v (.bool true)])|false=>.p (aB ag r y))
     | _,_=>C.bad 61
    | _=>C.bad 62
   | true,.p (.mp es)=>match vV P et,AG5 P et with
    | some ag,some r=>C.find kd k (PO es) ag r (K (match ok with|true=>GX (.p (.v z)) (.v (.bool false))|false=>.p (.v z)))
      fun _ y=>K (match ok with|true=>.p (.bX [aB ag r y,.v (.bool true)])|false=>.p (aB ag r y))
    | _,_=>C.bad 66
   | _,_=>p0 C 63 (rY P σ t x i ok) K
  | _,_,_=>C.bad 64
 | _=>C.bad 65
def sJ:Sy→Bool
 | .int _=>true
 | .bool=>true
 | .str=>true
 | .pr a b=>sJ a&&sJ b
 | _=>false
def AZQ (fid:FuncId):Option Sh:=match P.funcs[fid]? with
 | some fn=>shL P fn.resultTypes.toList
 | none=>none
def AO2 (σ:Nat→Option aY) (n:Nat) (f:D) (args:List D) (K:D→Prop):Prop :=
 match iW f with
 | some (fid,a,b)=>match E fid,AZQ P fid with
  | some (.pure g),some s=>match mA (a++args++b) with
   | some ts=>C.call s (g ts) fun y=>K (.p (Sh.enc s y))
   | none=>match (a++args++b).mapM (fX σ 4),s.all (fun x=>sJ x.2) with
    | some ts,true=>C.call s (g ts) fun y=>K (.p (Sh.enc s y))
    | _,_=>C.bad 71
  | some (.read g),some s=>C.call s (g (a++args++b) σ n) fun y=>K (.p (Sh.enc s y))
  | some (.new g),some s=>match (a++args++b).mapM (fX σ 4) with
   | some ts=>C.call s (g ts) fun y=>K (.p (Sh.enc s y))
   | none=>C.bad 74
  | some (.APN g),some _=>match (a++args++b).mapM (fX σ 4) with
   | some ts=>C.opt (List (ByteArray×Int)) (g ts) fun es=>K (.p (.mp (AWN es)))
   | none=>C.bad 75
  | some (.ext g),some s=>match mA (a++args++b) with
   | some ts=>C.call s (g ts) fun y=>K (.p (Sh.enc s y))
   | none=>C.bad 76
  | _,_=>C.bad 72
 | none=>C.bad 73
def AFZ (t:TypeId) (len cap:D) (K:D→Prop):Prop :=
 match l6 P t with
 | some e =>
  match tsz? P e,tby? P e,tz? P e,len,cap with
  | some z,some by_,some zv,.p (.v (.int _ a)),.p (.v (.int _ b)) =>
   match decide (0<z)&&zv.cells.size == z&&zv.cells.all Value.oneCell' with
   | true=>C.NZ (decide (a=b)&&decide (0≤b)&&decide (b*by_≤140737488355328)&&decide (b≤140737488355328)) (K (.p (.sl false (List.replicate a.toNat (zv.cells.toList.map .v)))))
   | false=>C.bad 18
  | _,_,_,_,_=>C.bad 19
 | none=>C.bad 20
def qvS (n:Nat) (σ:Nat→Option aY) (s₀ s:Nat→D) (op:Op) (K:D→Prop):Prop :=
 match op with
 | .indexAddr t x i=>AWZ C P σ t (ev s x) (ev s i) K
 | .makeSlice t l c=>AFZ C P t (ev s l) (ev s c) K
 | .load t a=>AQN C P σ t (ev s a) K
 | .binOp op t x y _=>AWE C P op t (ev s x) (ev s y) K
 | .slice t x lo hi mx=>AGZ C P σ t (ev s x) (lo.map (ev s)) (hi.map (ev s)) (mx.map (ev s)) K
 | .index t x i=>AO0 C P t (ev s x) (ev s i) K
 | .lookup t x i ok=>AQO C P σ t (ev s x) (ev s i) ok K
 | .call c=>match c.callee with
  | .value f=>AO2 C P E σ n (ev s f) (c.args.toList.map (ev s)) K
  | _=>p0 C 81 (qv P E n σ s₀ s true op) K
 | op=>p0 C 82 (qv P E n σ s₀ s true op) K
end
section
variable {P : Program} {E : Env}
theorem cS {c:Nat} {x:Option D} {K:D→Prop} (h:p0 oG c x K):∃ d,x=some d∧K d:=by
 unfold p0 at h
 split at h
 ·exact ⟨_,rfl,h⟩
 ·exact h.elim
theorem ALX (l:List T):PN (l.map .p) = .p (.agg l):=by unfold PN;rw[XV]
theorem wB {j:Int} {K:Int→Prop}:∀ {n i:Nat},zT oG j K n i→∃ q,j=q∧K q
 | 0,_,h=>h.elim
 | n+1,i,h=>by
  unfold zT at h
  cases hd:decide (j=Int.ofNat i) with
  | true=>rw[hd] at h;exact ⟨_,of_decide_eq_true hd,h⟩
  | false=>rw[hd] at h;exact wB (n:=n) (i:=i+1) h
theorem ALM {σ:Nat→Option aY} {t:TypeId} {d i:D} {K:D→Prop} (h:AWZ oG P σ t d i K):∃ r,cN P σ t d i=some r∧K r:=by
 unfold AWZ at h
 split at h
 ·rename_i kk j e he
  split at h
  ·rename_i z r hz hr
   split at h
   ·exact cS h
   split at h
   ·rename_i tt hw
    have hw:r.w=z:=by simpa using hw
    split at h
    ·rename_i f rows hrows
     obtain ⟨y,h0,h1,h2⟩:=h
     refine ⟨_,?_,h2⟩
     unfold cN
     have:¬ j<0:=by omega
     simp only[this,if_false,he,hz,hrows,h1,Sy.dL,hw,if_true]
    ·exact h.elim
   ·rename_i k hw
    have hw:r.w=z:=by simpa using hw
    split at h
    ·rename_i ro zz rows hσ
     obtain ⟨y,h0,h1,h2⟩:=h
     refine ⟨_,?_,h2⟩
     unfold cN
     have:¬ j<0:=by omega
     have hR:(σ k).bind dC=some (bB rows):=by rw[hσ];rfl
     simp only[this,if_false,he,hz,hR,pRows_get?,h1,Option.map_some,List.length_map,Sy.dL,hw,if_true]
    ·exact cS h
   ·rename_i k off len hw
    have hw:r.w=z:=by simpa using hw
    split at h
    ·rename_i ro zz rows hσ
     obtain ⟨hb,y,h0,h1,h2⟩:=h
     simp only[Bool.and_eq_true,decide_eq_true_eq] at hb
     refine ⟨_,?_,h2⟩
     unfold cN
     have:¬ j<0:=by omega
     have hR:(σ k).bind dC=some (bB rows):=by rw[hσ];rfl
     simp only[Int.toNat_natCast] at h1
     simp only[this,if_false,he,hz,hb.2,if_true,hR,pRows_get?,h1,Option.map_some,List.length_map,Sy.dL,hw,if_true]
    ·exact cS h
   ·exact h.elim
  ·exact h.elim
 ·split at h
  ·split at h
   ·obtain ⟨_,rfl,h⟩:=wB h
    exact cS h
   ·exact cS h
  ·exact cS h
 ·exact cS h
theorem AFW {σ:Nat→Option aY} {t:TypeId} {d:D} {K:D→Prop} (h:AQN oG P σ t d K):∃ r,sZ P σ t d=some r∧K r:=by
 unfold AQN at h
 split at h
 ·rename_i k i o
  split at h
  ·rename_i ro zz rows hσ
   split at h
   ·rename_i r ag n hr hag hn
    split at h
    ·rename_i hw
     simp only[Bool.and_eq_true,beq_iff_eq,Bool.or_eq_true] at hw
     obtain ⟨row,y,h1,h2,h3,h4⟩:=h
     refine ⟨_,?_,h4⟩
     have hR:(σ k).bind dC=some (bB rows):=by rw[hσ];rfl
     unfold sZ
     simp only[hag,hn,hR,pRows_get?,h1,Option.map_some]
     cases ag with
     | true =>
      have:o+n≤(row.map D.p).length:=by simp;omega
      simp only[if_true,this]
      rw[←List.map_drop,←List.map_take,←hw.1,h3,ALX]
      rfl
     | false =>
      have hn1:n=1:=by simpa using hw.2
      have hw1:r.w=1:=by omega
      have hl:(r.enc y).length=1:=by rw[Sy.dL];exact hw1
      obtain ⟨x,hx⟩:=List.length_eq_one_iff.1 hl
      have:row[o]? = some x:=by
       have h5:((row.drop o).take r.w)[0]? = some x:=by rw[h3,hx];rfl
       rw[hw1] at h5
       simpa [List.getElem?_take,List.getElem?_drop] using h5
      simp only[Bool.false_eq_true,if_false,List.getElem?_map,this,Option.map_some,aB,hx,PG]
    ·exact h.elim
   ·exact h.elim
  ·exact cS h
 ·exact cS h
theorem AJ0 {op:BinOp} {t:TypeId} {x y:D} {K:D→Prop} (h:AWE oG P op t x y K):∃ r,SF P op t x y=some r∧K r:=by
 unfold AWE at h
 split at h
 ·split at h
  ·rename_i k a k' b
   split at h
   ·rename_i hk
    have hk:=of_decide_eq_true hk
    subst hk
    obtain ⟨hb,h⟩:=h
    have hb:¬ b=0:=by simpa using hb
    exact ⟨_,by simp[SF,zG,YB,AJ1,TN,hb],h⟩
   ·exact h.elim
  ·exact h.elim
 ·split at h
  ·rename_i k a k' b
   split at h
   ·rename_i hk
    have hk:=of_decide_eq_true hk
    subst hk
    obtain ⟨hb,h⟩:=h
    have hb:¬ b=0:=by simpa using hb
    exact ⟨_,by simp[SF,zG,YB,AJ1,TN,hb],h⟩
   ·exact h.elim
  ·exact h.elim
 ·split at h
  ·rename_i a b
   obtain ⟨hb,h⟩:=h
   have hb:((a.size+b.size:Nat):Int)≤9223372036854775807:=of_decide_eq_true hb
   exact ⟨_,by simp only[SF,zG,YB,AJ1,AG4,if_pos hb,Option.map_some],h⟩
  ·exact cS h
 ·exact cS h
theorem eR {d:Option D} {dflt m hi:Nat} {b:Bool} (h:NI d dflt=some (m,b)) (hb:(b&&decide (m≤hi))=true):mC d dflt hi=some m:=by
 simp only[Bool.and_eq_true,decide_eq_true_eq] at hb
 unfold NI at h
 split at h
 ·cases h;simp[mC,hb.2]
 ·rename_i k i
  cases h
  have h0:0≤i:=of_decide_eq_true hb.1
  have h1:i≤hi:=by have:=hb.2;omega
  simp[mC,h0,h1]
 ·cases h
theorem ABM {σ:Nat→Option aY} {t:TypeId} {d:D} {lo hi mx:Option D} {K:D→Prop} (h:AGZ oG P σ t d lo hi mx K):∃ r,iL P σ t d lo hi mx=some r∧K r:=by
 unfold AGZ at h
 split at h
 ·exact cS h
 ·split at h
  ·rename_i e he
   split at h
   ·rename_i z hz
    split at h
    ·rename_i tt
     split at h
     ·rename_i full rows hrows
      split at h
      ·rename_i hN bh lN bl h1 h2
       obtain ⟨hb,h⟩:=h
       rw[Bool.and_eq_true,Bool.and_eq_true] at hb
       refine ⟨_,?_,h⟩
       unfold iL
       simp only[he,hz,hrows,hb.1.1,if_true,eR h1 hb.1.2,eR h2 hb.2]
      ·exact h.elim
     ·exact h.elim
    ·rename_i k
     split at h
     ·rename_i ro zz rows hσ
      split at h
      ·rename_i hN bh lN bl h1 h2
       obtain ⟨hb,h⟩:=h
       rw[Bool.and_eq_true] at hb
       have hR:(σ k).bind dC=some (bB rows):=by rw[hσ];rfl
       rw[pW] at h
       by_cases heq:hN=lN
       ·refine ⟨_,?_,h.1 (by simpa using heq)⟩
        unfold iL
        simp only[he,hz,hR,dM,eR h1 hb.1,eR h2 hb.2];rw[if_pos heq]
       ·obtain ⟨hw,hk⟩:=h.2 (by simpa using heq)
        refine ⟨_,?_,hk⟩
        unfold iL
        simp only[he,hz,hR,dM,eR h1 hb.1,eR h2 hb.2];rw[if_neg heq,if_pos hw]
      ·exact h.elim
     ·exact cS h
    ·rename_i k off len
     split at h
     ·rename_i hN bh lN bl h1 h2
      obtain ⟨hb,h⟩:=h
      rw[Bool.and_eq_true] at hb
      rw[pW] at h
      by_cases heq:hN=lN
      ·refine ⟨_,?_,h.1 (by simpa using heq)⟩
       unfold iL
       simp only[he,hz,eR h1 hb.1,eR h2 hb.2];rw[if_pos heq]
      ·obtain ⟨hw,hk⟩:=h.2 (by simpa using heq)
       refine ⟨_,?_,hk⟩
       unfold iL
       simp only[he,hz,eR h1 hb.1,eR h2 hb.2];rw[if_neg heq,if_pos hw]
     ·exact h.elim
    ·exact h.elim
   ·exact h.elim
  ·rename_i he
   split at h
   ·rename_i s hu
    split at h
    ·rename_i hN bh lN bl h1 h2
     obtain ⟨hb,h⟩:=h
     rw[Bool.and_eq_true] at hb
     refine ⟨_,?_,h⟩
     unfold iL
     simp only[he,hu,eR h1 hb.1,eR h2 hb.2]
    ·exact h.elim
   ·exact cS h
theorem AED {t:TypeId} {d i:D} {K:D→Prop} (h:AO0 oG P t d i K):∃ r,D8 P t d i=some r∧K r:=by
 unfold AO0 at h
 split at h
 ·rename_i kk j s hu
  obtain ⟨b,h0,h1,h2⟩:=h
  refine ⟨_,?_,h2⟩
  unfold D8
  have:¬ j<0:=by omega
  simp only[this,if_false,hu,h1,Option.map_some]
 ·exact cS h
theorem AFY {σ:Nat→Option aY} {t:TypeId} {x i:D} {ok:Bool} {K:D→Prop} (h:AQO oG P σ t x i ok K):∃ r,rY P σ t x i ok=some r∧K r:=by
 unfold AQO at h
 split at h
 ·rename_i kt et hu
  split at h
  ·rename_i kd k z hk hz
   split at h
   ·rename_i m hkey
    split at h
    ·rename_i ro es hσ
     split at h
     ·rename_i ag r hag hr
      rcases h with ⟨h1,h2⟩|⟨i,y,h1,h2⟩
      ·refine ⟨_,?_,h2⟩
       unfold rY
       simp only[hu,hk,hz,hkey,hσ,h1]
       cases ok<;>rfl
      ·refine ⟨_,?_,h2⟩
       unfold rY
       simp only[hu,hk,hz,hkey,hσ,h1]
       cases ok<;>rfl
     ·exact h.elim
    ·exact h.elim
   ·rename_i es hkey
    split at h
    ·rename_i ag r hag hr
     rcases h with ⟨h1,h2⟩|⟨i,y,h1,h2⟩
     ·refine ⟨_,?_,h2⟩
      unfold rY
      simp only[hu,hk,hz,hkey,h1]
      cases ok<;>rfl
     ·refine ⟨_,?_,h2⟩
      unfold rY
      simp only[hu,hk,hz,hkey,h1]
      cases ok<;>rfl
    ·exact h.elim
   ·exact cS h
  ·exact h.elim
 ·exact h.elim
theorem qU:∀ (r:Sy),sJ r=true→∀ (x:r.den) (n:Nat),(r.enc x).all (T.oL n)=true
 | .int _,_,x,n=>by cases n<;>simp[Sy.enc,T.oL]
 | .bool,_,x,n=>by cases n<;>simp[Sy.enc,T.oL]
 | .str,_,x,n=>by cases n<;>simp[Sy.enc,T.oL]
 | .pr a b,h,x,n=>by
  simp only[sJ,Bool.and_eq_true] at h
  simp only[Sy.enc,List.all_append,Bool.and_eq_true]
  exact ⟨qU a h.1 x.1 n,qU b h.2 x.2 n⟩
theorem DT {ag:Bool} {r:Sy} (h:sJ r=true) (x:r.den) (n:Nat):T.oL (n+1) (aB ag r x)=true:=by
 have:=qU r h x (n+1)
 cases ag with
 | true=>exact qU r h x n
 | false =>
  simp only[aB]
  cases he:r.enc x with
  | nil=>rfl
  | cons a l=>rw[he] at this;simp only[List.all_cons,Bool.and_eq_true] at this;exact this.1
theorem O1:∀ (s:Sh),s.all (fun x=>sJ x.2)=true→∀ (y:Sh.den s) (n:Nat),(Sh.bI s y).all (T.oL (n+1))=true
 | [],_,_,_=>rfl
 | [a],h,y,n=>by
  simp only[List.all_cons,List.all_nil,Bool.and_true] at h
  simp only[Sh.bI,List.all_cons,List.all_nil,Bool.and_true]
  exact DT h y n
 | a::b::l,h,y,n=>by
  rw[List.all_cons,Bool.and_eq_true] at h
  simp only[Sh.bI,List.all_cons,Bool.and_eq_true] at *
  have:=O1 (b::l) (by rw[List.all_cons,Bool.and_eq_true];exact h.2) y.2 n
  exact ⟨DT h.1 y.1 n,this⟩
theorem ATI {s:Sh} (h:s.all (fun x=>sJ x.2)=true) (y:Sh.den s):(Sh.enc s y).flat=true:=by
 unfold T.flat
 match s,h,y with
 | [],h,y=>rfl
 | [a],h,y =>
  simp only[List.all_cons,List.all_nil,Bool.and_true] at h
  exact DT h y 2
 | a::b::l,h,y=>exact O1 (a::b::l) h y 1
theorem AEF {σ:Nat→Option aY} {n:Nat} {f:D} {args:List D} {K:D→Prop} (h:AO2 oG P E σ n f args K):∃ r,mY E σ n f args=some r∧K r:=by
 unfold AO2 at h
 split at h
 ·rename_i fid a b hc
  split at h
  ·rename_i g s hE hs
   split at h
   ·rename_i ts hts
    obtain ⟨y,h1,h2⟩:=h
    refine ⟨_,?_,h2⟩
    unfold mY
    simp only[hc,hE,hts,h1,Option.map_some]
   ·rename_i hts
    split at h
    ·rename_i ts hm hfl
     obtain ⟨y,h1,h2⟩:=h
     refine ⟨_,?_,h2⟩
     unfold mY
     simp only[hc,hE,hts,hm,h1,ATI hfl y,if_true]
    ·exact h.elim
  ·rename_i g s hE hs
   obtain ⟨y,h1,h2⟩:=h
   refine ⟨_,?_,h2⟩
   unfold mY
   simp only[hc,hE,h1,Option.map_some]
  ·rename_i g s hE hs
   split at h
   ·rename_i ts hts
    obtain ⟨y,h1,h2⟩:=h
    refine ⟨_,?_,h2⟩
    unfold mY
    simp only[hc,hE,hts,h1,Option.map_some]
   ·exact h.elim
  ·rename_i g s hE hs
   split at h
   ·rename_i ts hts
    obtain ⟨y,h1,h2⟩:=h
    refine ⟨_,?_,h2⟩
    unfold mY
    simp only[hc,hE,hts,h1,Option.map_some]
   ·exact h.elim
  ·rename_i g s hE hs
   split at h
   ·rename_i ts hts
    obtain ⟨y,h1,h2⟩:=h
    refine ⟨_,?_,h2⟩
    unfold mY
    simp only[hc,hE,hts,h1,Option.map_some]
   ·exact h.elim
  ·exact h.elim
 ·exact h.elim
theorem AAO {t:TypeId} {a b:D} {K:D→Prop} (h:AFZ oG P t a b K):∃ d,AAN P t a b=some d∧K d:=by
 unfold AFZ at h
 split at h
 ·rename_i e he
  split at h
  ·rename_i z by_ zv k1 x k2 y hz hby hzv
   split at h
   ·rename_i hc
    obtain ⟨hb,hk⟩:=h
    refine ⟨_,?_,hk⟩
    simp only[AAN,he,hz,hby,hzv,hc,hb,Bool.and_self]
   ·exact h.elim
  ·exact h.elim
 ·exact h.elim
theorem ARU {n:Nat} {σ:Nat→Option aY} {s₀ s:Nat→D} {op:Op} {K:D→Prop} (h:qvS oG P E n σ s₀ s op K):∃ d,qv P E n σ s₀ s true op=some d∧K d:=by
 unfold qvS at h
 split at h
 ·exact ALM h
 ·exact AAO h
 ·exact AFW h
 ·exact AJ0 h
 ·exact ABM h
 ·exact AED h
 ·exact AFY h
 ·rename_i c
  split at h
  ·rename_i f hf
   obtain ⟨d,h1,h2⟩:=AEF h
   refine ⟨d,?_,h2⟩
   simp only[qv,hf]
   exact h1
  ·exact cS h
 ·exact cS h
end
end Go.Pv
