/-
  The symbolic executor, part b: operations.
-/
import Derived.Test.YtdplnhkfbmgofaaGreatDoorPf2ka
set_option linter.defProp false
set_option linter.unusedSimpArgs false
namespace Go.Pv
open Go Go.RowKit
section
variable (C : Combs) (P : Program) (E : Env)
def iH (c:Nat) (x:Option D) (K:D→Prop):Prop:=match x with
 | some d=>K d
 | none=>C.bad c
def Sy.isAny:Sy→Bool
 | .any=>true
 | _=>false
def oH (j:Int) (K:Int→Prop):Nat→Nat→Prop
 | 0,_=>C.bad 18
 | n+1,i=>aG (decide (j=Int.ofNat i)) (K (Int.ofNat i)) (oH j K n (i+1))
def Q6 (σ:Nat→Option aE) (t:TypeId) (d i:D) (K:D→Prop):Prop :=
 match i,fJ P t with
 | .p (.v (.int _ j)),some e =>
  match tsz? P e,EY P e with
  | some z,some r =>
   match r.isAny with
   | true=>iH C 17 (bB P σ t d i) K
   | false =>
   match r.w == z,d with
   | true,.p tt=>match cE tt with
    | some (_,rows)=>C.rows r rows j fun y=>K (.p (.ref (r.enc y)))
    | none=>C.bad 11
   | true,.own k=>match σ k with
    | some (.arr _ _ rows)=>C.rows r rows j fun _=>K (.ptr k j.toNat 0)
    | _=>iH C 12 (bB P σ t d i) K
   | true,.bs k off len=>match σ k with
    | some (.arr _ _ rows)=>C.pU (decide (0≤j)&&decide (j.toNat<len)) (C.rows r rows (off+j.toNat:Nat) fun _=>K (.ptr k (off+j.toNat) 0))
    | _=>iH C 13 (bB P σ t d i) K
   | _,_=>C.bad 14
  | _,_=>C.bad 15
 | .p (.v (.int kk j)),none=>match AH P t with
  | some (m,_)=>match decide (m≤8) with
   | true=>oH C j (fun j=>iH C 19 (bB P σ t d (.p (.v (.int kk j)))) K) m 0
   | false=>iH C 16 (bB P σ t d i) K
  | none=>iH C 16 (bB P σ t d i) K
 | _,_=>iH C 16 (bB P σ t d i) K
def K8 (σ:Nat→Option aE) (t:TypeId) (d:D) (K:D→Prop):Prop :=
 match d with
 | .ptr k i o=>match σ k with
  | some (.arr _ _ rows)=>match EY P t,mC P t,tsz? P t with
   | some r,some ag,some n=>match r.w == n&&(ag||n == 1) with
    | true=>C.part r rows i o fun y=>K (.p (bW ag r y))
    | false=>C.bad 21
   | _,_,_=>C.bad 22
  | _=>iH C 23 (kV P σ t d) K
 | _=>iH C 24 (kV P σ t d) K
def QS (op:BinOp) (t:TypeId) (x y:D) (K:D→Prop):Prop :=
 match op with
 | .quo=>match x,y with
  | .p (.v (.int k a)),.p (.v (.int k' b))=>match decide (k=k') with
   | true=>C.pU (!decide (b=0)) (K (.p (.v (.int k (k.wrap (a.tdiv b))))))
   | false=>C.bad 31
  | _,_=>C.bad 32
 | .rem=>match x,y with
  | .p (.v (.int k a)),.p (.v (.int k' b))=>match decide (k=k') with
   | true=>C.pU (!decide (b=0)) (K (.p (.v (.int k (a.tmod b)))))
   | false=>C.bad 33
  | _,_=>C.bad 34
 | .add=>match x,y with
  | .p (.v (.string a)),.p (.v (.string b))=>C.pU (decide (((a.size+b.size:Nat):Int)≤9223372036854775807)) (K (.p (.v (.string (a++b)))))
  | _,_=>iH C 35 (xY P .add t x y) K
 | op=>iH C 36 (xY P op t x y) K
def vJ (d:Option D) (dflt:Nat):Option (Nat×Bool):=match d with
 | none=>some (dflt,true)
 | some (.p (.v (.int _ i)))=>some (i.toNat,decide (0≤i))
 | _=>none
def ES (σ:Nat→Option aE) (t:TypeId) (d:D) (lo hi mx:Option D) (K:D→Prop):Prop :=
 match mx with
 | some _=>iH C 41 (eI P σ t d lo hi mx) K
 | none=>match fJ P t with
  | some e=>match tsz? P e with
   | some z=>match d with
    | .p tt=>match cE tt with
     | some (full,rows)=>match vJ hi rows.length,vJ lo 0 with
      | some (h,bh),some (l,bl)=>C.pU (yM z rows&&(bh&&decide (h≤rows.length))&&(bl&&decide (l≤h))) (K (.p (.sl (full&&decide (h=rows.length)) ((rows.take h).drop l))))
      | _,_=>C.bad 42
     | none=>C.bad 43
    | .own k=>match σ k with
     | some (.arr _ _ rows)=>match vJ hi rows.length,vJ lo 0 with
      | some (h,bh),some (l,bl)=>C.pU ((bh&&decide (h≤rows.length))&&(bl&&decide (l≤h))) (aG (decide (h=l)) (K (.p (.sl false []))) (C.pU (dZ σ k z) (K (.bs k l (h-l)))))
      | _,_=>C.bad 44
     | _=>iH C 45 (eI P σ t d lo hi mx) K
    | .bs k off len=>match vJ hi len,vJ lo 0 with
     | some (h,bh),some (l,bl)=>C.pU ((bh&&decide (h≤len))&&(bl&&decide (l≤h))) (aG (decide (h=l)) (K (.p (.sl false []))) (C.pU (dZ σ k z) (K (.bs k (off+l) (h-l)))))
     | _,_=>C.bad 46
    | _=>C.bad 47
   | none=>C.bad 48
  | none=>match P.underlying t,d with
   | some .string,.p (.v (.string s))=>match vJ hi s.size,vJ lo 0 with
    | some (h,bh),some (l,bl)=>C.pU ((bh&&decide (h≤s.size))&&(bl&&decide (l≤h))) (K (.p (.v (.string (s.extract l h)))))
    | _,_=>C.bad 49
   | _,_=>iH C 50 (eI P σ t d lo hi mx) K
def JX (t:TypeId) (d i:D) (K:D→Prop):Prop :=
 match i,d,P.underlying t with
 | .p (.v (.int _ j)),.p (.v (.string s)),some .string=>C.byte s j fun b=>K (.p (.v (.int .u8 b)))
 | _,_,_=>iH C 51 (pP P t d i) K
def K9 (σ:Nat→Option aE) (t:TypeId) (x i:D) (ok:Bool) (K:D→Prop):Prop :=
 match P.underlying t with
 | some (.map kt et) =>
  match jZ P kt,i,tz? P et with
  | some kd,.p (.v k),some z =>
   match nH kd k,x with
   | true,.map m =>
    match σ m with
    | some (.map _ es)=>match mC P et,EY P et with
     | some ag,some r=>C.find kd k es ag r (K (match ok with|true=>rK (.p (.v z)) (.v (.bool false))|false=>.p (.v z)))
       fun _ y=>K (match ok with|true=>.p (.cF [bW ag r y,.v (.bool true)])|false=>.p (bW ag r y))
     | _,_=>C.bad 61
    | _=>C.bad 62
   | true,.p (.mp es)=>match mC P et,EY P et with
    | some ag,some r=>C.find kd k (wL es) ag r (K (match ok with|true=>rK (.p (.v z)) (.v (.bool false))|false=>.p (.v z)))
      fun _ y=>K (match ok with|true=>.p (.cF [bW ag r y,.v (.bool true)])|false=>.p (bW ag r y))
    | _,_=>C.bad 66
   | _,_=>iH C 63 (kA P σ t x i ok) K
  | _,_,_=>C.bad 64
 | _=>C.bad 65
def kO:Sy→Bool
 | .int _=>true
 | .bool=>true
 | .str=>true
 | .pr a b=>kO a&&kO b
 | _=>false
def P4 (fid:FuncId):Option Sh:=match P.funcs[fid]? with
 | some fn=>RV P fn.resultTypes.toList
 | none=>none
def JZ (σ:Nat→Option aE) (n:Nat) (f:D) (args:List D) (K:D→Prop):Prop :=
 match dO f with
 | some (fid,a,b)=>match E fid,P4 P fid with
  | some (.pure g),some s=>match gE (a++args++b) with
   | some ts=>C.call s (g ts) fun y=>K (.p (Sh.enc s y))
   | none=>match (a++args++b).mapM (dJ σ 4),s.all (fun x=>kO x.2) with
    | some ts,true=>C.call s (g ts) fun y=>K (.p (Sh.enc s y))
    | _,_=>C.bad 71
  | some (.read g),some s=>C.call s (g (a++args++b) σ n) fun y=>K (.p (Sh.enc s y))
  | some (.new g),some s=>match (a++args++b).mapM (dJ σ 4) with
   | some ts=>C.call s (g ts) fun y=>K (.p (Sh.enc s y))
   | none=>C.bad 74
  | some (.KC g),some _=>match (a++args++b).mapM (dJ σ 4) with
   | some ts=>C.opt (List (ByteArray×Int)) (g ts) fun es=>K (.p (.mp (QY es)))
   | none=>C.bad 75
  | some (.ext g),some s=>match gE (a++args++b) with
   | some ts=>C.call s (g ts) fun y=>K (.p (Sh.enc s y))
   | none=>C.bad 76
  | _,_=>C.bad 72
 | none=>C.bad 73
def EC (t:TypeId) (len cap:D) (K:D→Prop):Prop :=
 match fJ P t with
 | some e =>
  match tsz? P e,tby? P e,tz? P e,len,cap with
  | some z,some by_,some zv,.p (.v (.int _ a)),.p (.v (.int _ b)) =>
   match decide (0<z)&&zv.cells.size == z&&zv.cells.all Value.oneCell' with
   | true=>C.pU (decide (a=b)&&decide (0≤b)&&decide (b*by_≤140737488355328)&&decide (b≤140737488355328)) (K (.p (.sl false (List.replicate a.toNat (zv.cells.toList.map .v)))))
   | false=>C.bad 18
  | _,_,_,_,_=>C.bad 19
 | none=>C.bad 20
def DK (σ:Nat→Option aE) (src dst:TypeId) (d:D) (K:D→Prop):Prop :=
 match d with
 | .own k=>match σ k,P.underlying src,P.underlying dst with
  | some (.arr _ z rows),some (.slice e),some .string=>match P.underlying e,decide (z=1) with
   | some (.int .u8),true=>C.dec (.int .u8) rows fun xs=>C.pU (decide (0<rows.length)) (K (.p (.v (.string (strOfNums xs)))))
   | _,_=>C.bad 21
  | _,_,_=>C.bad 22
 | d=>iH C 83 (vW P src dst d) K
def VI (n:Nat) (σ:Nat→Option aE) (s₀ s:Nat→D) (op:Op) (K:D→Prop):Prop :=
 match op with
 | .indexAddr t x i=>Q6 C P σ t (ev s x) (ev s i) K
 | .makeSlice t l c=>EC C P t (ev s l) (ev s c) K
 | .load t a=>K8 C P σ t (ev s a) K
 | .binOp op t x y _=>QS C P op t (ev s x) (ev s y) K
 | .slice t x lo hi mx=>ES C P σ t (ev s x) (lo.map (ev s)) (hi.map (ev s)) (mx.map (ev s)) K
 | .index t x i=>JX C P t (ev s x) (ev s i) K
 | .lookup t x i ok=>K9 C P σ t (ev s x) (ev s i) ok K
 | .convert src dst x=>match E.marked (6000000000+src) with
  | true=>DK C P σ src dst (ev s x) K
  | false=>iH C 82 (vW P src dst (ev s x)) K
 | .call c=>match c.callee with
  | .value f=>JZ C P E σ n (ev s f) (c.args.toList.map (ev s)) K
  | _=>iH C 81 (qv P E n σ s₀ s true op) K
 | op=>iH C 82 (qv P E n σ s₀ s true op) K
end
section
variable {P : Program} {E : Env}
theorem a8 {c:Nat} {x:Option D} {K:D→Prop} (h:iH gJ c x K):∃ d,x=some d∧K d:=by
 unfold iH at h
 split at h
 ·exact ⟨_,rfl,h⟩
 ·exact h.elim
theorem H7 (l:List T):wK (l.map .p) = .p (.agg l):=by unfold wK;rw[zY]
theorem mJ {j:Int} {K:Int→Prop}:∀ {n i:Nat},oH gJ j K n i→∃ q,j=q∧K q
 | 0,_,h=>h.elim
 | n+1,i,h=>by
  unfold oH at h
  cases hd:decide (j=Int.ofNat i) with
  | true=>rw[hd] at h;exact ⟨_,of_decide_eq_true hd,h⟩
  | false=>rw[hd] at h;exact mJ (n:=n) (i:=i+1) h
theorem HT {σ:Nat→Option aE} {t:TypeId} {d i:D} {K:D→Prop} (h:Q6 gJ P σ t d i K):∃ r,bB P σ t d i=some r∧K r:=by
 unfold Q6 at h
 split at h
 ·rename_i kk j e he
  split at h
  ·rename_i z r hz hr
   split at h
   ·exact a8 h
   split at h
   ·rename_i tt hw
    have hw:r.w=z:=by simpa using hw
    split at h
    ·rename_i f rows hrows
     obtain ⟨y,h0,h1,h2⟩:=h
     refine ⟨_,?_,h2⟩
     unfold bB
     have:¬ j<0:=by omega
     simp only[this,if_false,he,hz,hrows,h1,Sy.bX,hw,if_true]
    ·exact h.elim
   ·rename_i k hw
    have hw:r.w=z:=by simpa using hw
    split at h
    ·rename_i ro zz rows hσ
     obtain ⟨y,h0,h1,h2⟩:=h
     refine ⟨_,?_,h2⟩
     unfold bB
     have:¬ j<0:=by omega
     have hR:(σ k).bind bH=some (aA rows):=by rw[hσ];rfl
     simp only[this,if_false,he,hz,hR,pRows_get?,h1,Option.map_some,List.length_map,Sy.bX,hw,if_true]
    ·exact a8 h
   ·rename_i k off len hw
    have hw:r.w=z:=by simpa using hw
    split at h
    ·rename_i ro zz rows hσ
     obtain ⟨hb,y,h0,h1,h2⟩:=h
     simp only[Bool.and_eq_true,decide_eq_true_eq] at hb
     refine ⟨_,?_,h2⟩
     unfold bB
     have:¬ j<0:=by omega
     have hR:(σ k).bind bH=some (aA rows):=by rw[hσ];rfl
     simp only[Int.toNat_natCast] at h1
     simp only[this,if_false,he,hz,hb.2,if_true,hR,pRows_get?,h1,Option.map_some,List.length_map,Sy.bX,hw,if_true]
    ·exact a8 h
   ·exact h.elim
  ·exact h.elim
 ·split at h
  ·split at h
   ·obtain ⟨_,rfl,h⟩:=mJ h
    exact a8 h
   ·exact a8 h
  ·exact a8 h
 ·exact a8 h
theorem D9 {σ:Nat→Option aE} {t:TypeId} {d:D} {K:D→Prop} (h:K8 gJ P σ t d K):∃ r,kV P σ t d=some r∧K r:=by
 unfold K8 at h
 split at h
 ·rename_i k i o
  split at h
  ·rename_i ro zz rows hσ
   split at h
   ·rename_i r ag n hr hag hn
    split at h
    ·rename_i hw
     simp only[Bool.and_eq_true,beq_iff_eq,Bool.or_eq_true] at hw
     obtain ⟨row,y,h1,h2,h3,h4⟩:=h
     refine ⟨_,?_,h4⟩
     have hR:(σ k).bind bH=some (aA rows):=by rw[hσ];rfl
     unfold kV
     simp only[hag,hn,hR,pRows_get?,h1,Option.map_some]
     cases ag with
     | true =>
      have:o+n≤(row.map D.p).length:=by simp;omega
      simp only[if_true,this]
      rw[←List.map_drop,←List.map_take,←hw.1,h3,H7]
      rfl
     | false =>
      have hn1:n=1:=by simpa using hw.2
      have hw1:r.w=1:=by omega
      have hl:(r.enc y).length=1:=by rw[Sy.bX];exact hw1
      obtain ⟨x,hx⟩:=List.length_eq_one_iff.1 hl
      have:row[o]? = some x:=by
       have h5:((row.drop o).take r.w)[0]? = some x:=by rw[h3,hx];rfl
       rw[hw1] at h5
       simpa [List.getElem?_take,List.getElem?_drop] using h5
      simp only[Bool.false_eq_true,if_false,List.getElem?_map,this,Option.map_some,bW,hx,SA]
    ·exact h.elim
   ·exact h.elim
  ·exact a8 h
 ·exact a8 h
theorem GX {op:BinOp} {t:TypeId} {x y:D} {K:D→Prop} (h:QS gJ P op t x y K):∃ r,xY P op t x y=some r∧K r:=by
 unfold QS at h
 split at h
 ·split at h
  ·rename_i k a k' b
   split at h
   ·rename_i hk
    have hk:=of_decide_eq_true hk
    subst hk
    obtain ⟨hb,h⟩:=h
    have hb:¬ b=0:=by simpa using hb
    exact ⟨_,by simp[xY,nW,AK,GY,yG,hb],h⟩
   ·exact h.elim
  ·exact h.elim
 ·split at h
  ·rename_i k a k' b
   split at h
   ·rename_i hk
    have hk:=of_decide_eq_true hk
    subst hk
    obtain ⟨hb,h⟩:=h
    have hb:¬ b=0:=by simpa using hb
    exact ⟨_,by simp[xY,nW,AK,GY,yG,hb],h⟩
   ·exact h.elim
  ·exact h.elim
 ·split at h
  ·rename_i a b
   obtain ⟨hb,h⟩:=h
   have hb:((a.size+b.size:Nat):Int)≤9223372036854775807:=of_decide_eq_true hb
   exact ⟨_,by simp only[xY,nW,AK,GY,EW,if_pos hb,Option.map_some],h⟩
  ·exact a8 h
 ·exact a8 h
theorem cY {d:Option D} {dflt m hi:Nat} {b:Bool} (h:vJ d dflt=some (m,b)) (hb:(b&&decide (m≤hi))=true):gH d dflt hi=some m:=by
 simp only[Bool.and_eq_true,decide_eq_true_eq] at hb
 unfold vJ at h
 split at h
 ·cases h;simp[gH,hb.2]
 ·rename_i k i
  cases h
  have h0:0≤i:=of_decide_eq_true hb.1
  have h1:i≤hi:=by have:=hb.2;omega
  simp[gH,h0,h1]
 ·cases h
theorem CD {σ:Nat→Option aE} {t:TypeId} {d:D} {lo hi mx:Option D} {K:D→Prop} (h:ES gJ P σ t d lo hi mx K):∃ r,eI P σ t d lo hi mx=some r∧K r:=by
 unfold ES at h
 split at h
 ·exact a8 h
 ·split at h
  ·rename_i e he
   split at h
   ·rename_i z hz
    split at h
    ·rename_i tt
     split at h
     ·rename_i full rows hrows
      split at h
      ·rename_i hN bh lN bl h1 h2
       obtain ⟨hb,h⟩:=h
       rw[Bool.and_eq_true,Bool.and_eq_true] at hb
       refine ⟨_,?_,h⟩
       unfold eI
       simp only[he,hz,hrows,hb.1.1,if_true,cY h1 hb.1.2,cY h2 hb.2]
      ·exact h.elim
     ·exact h.elim
    ·rename_i k
     split at h
     ·rename_i ro zz rows hσ
      split at h
      ·rename_i hN bh lN bl h1 h2
       obtain ⟨hb,h⟩:=h
       rw[Bool.and_eq_true] at hb
       have hR:(σ k).bind bH=some (aA rows):=by rw[hσ];rfl
       rw[gZ] at h
       by_cases heq:hN=lN
       ·refine ⟨_,?_,h.1 (by simpa using heq)⟩
        unfold eI
        simp only[he,hz,hR,aK,cY h1 hb.1,cY h2 hb.2];rw[if_pos heq]
       ·obtain ⟨hw,hk⟩:=h.2 (by simpa using heq)
        refine ⟨_,?_,hk⟩
        unfold eI
        simp only[he,hz,hR,aK,cY h1 hb.1,cY h2 hb.2];rw[if_neg heq,if_pos hw]
      ·exact h.elim
     ·exact a8 h
    ·rename_i k off len
     split at h
     ·rename_i hN bh lN bl h1 h2
      obtain ⟨hb,h⟩:=h
      rw[Bool.and_eq_true] at hb
      rw[gZ] at h
      by_cases heq:hN=lN
      ·refine ⟨_,?_,h.1 (by simpa using heq)⟩
       unfold eI
       simp only[he,hz,cY h1 hb.1,cY h2 hb.2];rw[if_pos heq]
      ·obtain ⟨hw,hk⟩:=h.2 (by simpa using heq)
       refine ⟨_,?_,hk⟩
       unfold eI
       simp only[he,hz,cY h1 hb.1,cY h2 hb.2];rw[if_neg heq,if_pos hw]
     ·exact h.elim
    ·exact h.elim
   ·exact h.elim
  ·rename_i he
   split at h
   ·rename_i s hu
    split at h
    ·rename_i hN bh lN bl h1 h2
     obtain ⟨hb,h⟩:=h
     rw[Bool.and_eq_true] at hb
     refine ⟨_,?_,h⟩
     unfold eI
     simp only[he,hu,cY h1 hb.1,cY h2 hb.2]
    ·exact h.elim
   ·exact a8 h
theorem DC {t:TypeId} {d i:D} {K:D→Prop} (h:JX gJ P t d i K):∃ r,pP P t d i=some r∧K r:=by
 unfold JX at h
 split at h
 ·rename_i kk j s hu
  obtain ⟨b,h0,h1,h2⟩:=h
  refine ⟨_,?_,h2⟩
  unfold pP
  have:¬ j<0:=by omega
  simp only[this,if_false,hu,h1,Option.map_some]
 ·exact a8 h
theorem EB {σ:Nat→Option aE} {t:TypeId} {x i:D} {ok:Bool} {K:D→Prop} (h:K9 gJ P σ t x i ok K):∃ r,kA P σ t x i ok=some r∧K r:=by
 unfold K9 at h
 split at h
 ·rename_i kt et hu
  split at h
  ·rename_i kd k z hk hz
   split at h
   ·rename_i m hkey
    split at h
    ·rename_i ro es hσ
     split at h
     ·rename_i ag r hag hr
      rcases h with ⟨h1,h2⟩|⟨i,y,h1,h2⟩
      ·refine ⟨_,?_,h2⟩
       unfold kA
       simp only[hu,hk,hz,hkey,hσ,h1]
       cases ok<;>rfl
      ·refine ⟨_,?_,h2⟩
       unfold kA
       simp only[hu,hk,hz,hkey,hσ,h1]
       cases ok<;>rfl
     ·exact h.elim
    ·exact h.elim
   ·rename_i es hkey
    split at h
    ·rename_i ag r hag hr
     rcases h with ⟨h1,h2⟩|⟨i,y,h1,h2⟩
     ·refine ⟨_,?_,h2⟩
      unfold kA
      simp only[hu,hk,hz,hkey,h1]
      cases ok<;>rfl
     ·refine ⟨_,?_,h2⟩
      unfold kA
      simp only[hu,hk,hz,hkey,h1]
      cases ok<;>rfl
    ·exact h.elim
   ·exact a8 h
  ·exact h.elim
 ·exact h.elim
theorem jW:∀ (r:Sy),kO r=true→∀ (x:r.den) (n:Nat),(r.enc x).all (T.iO n)=true
 | .int _,_,x,n=>by cases n<;>simp[Sy.enc,T.iO]
 | .bool,_,x,n=>by cases n<;>simp[Sy.enc,T.iO]
 | .str,_,x,n=>by cases n<;>simp[Sy.enc,T.iO]
 | .pr a b,h,x,n=>by
  simp only[kO,Bool.and_eq_true] at h
  simp only[Sy.enc,List.all_append,Bool.and_eq_true]
  exact ⟨jW a h.1 x.1 n,jW b h.2 x.2 n⟩
theorem pJ {ag:Bool} {r:Sy} (h:kO r=true) (x:r.den) (n:Nat):T.iO (n+1) (bW ag r x)=true:=by
 have:=jW r h x (n+1)
 cases ag with
 | true=>exact jW r h x n
 | false =>
  simp only[bW]
  cases he:r.enc x with
  | nil=>rfl
  | cons a l=>rw[he] at this;simp only[List.all_cons,Bool.and_eq_true] at this;exact this.1
theorem vZ:∀ (s:Sh),s.all (fun x=>kO x.2)=true→∀ (y:Sh.den s) (n:Nat),(Sh.iF s y).all (T.iO (n+1))=true
 | [],_,_,_=>rfl
 | [a],h,y,n=>by
  simp only[List.all_cons,List.all_nil,Bool.and_true] at h
  simp only[Sh.iF,List.all_cons,List.all_nil,Bool.and_true]
  exact pJ h y n
 | a::b::l,h,y,n=>by
  rw[List.all_cons,Bool.and_eq_true] at h
  simp only[Sh.iF,List.all_cons,Bool.and_eq_true] at *
  have:=vZ (b::l) (by rw[List.all_cons,Bool.and_eq_true];exact h.2) y.2 n
  exact ⟨pJ h.1 y.1 n,this⟩
theorem OJ {s:Sh} (h:s.all (fun x=>kO x.2)=true) (y:Sh.den s):(Sh.enc s y).flat=true:=by
 unfold T.flat
 match s,h,y with
 | [],h,y=>rfl
 | [a],h,y =>
  simp only[List.all_cons,List.all_nil,Bool.and_true] at h
  exact pJ h y 2
 | a::b::l,h,y=>exact vZ (a::b::l) h y 1
theorem DE {σ:Nat→Option aE} {n:Nat} {f:D} {args:List D} {K:D→Prop} (h:JZ gJ P E σ n f args K):∃ r,gR E σ n f args=some r∧K r:=by
 unfold JZ at h
 split at h
 ·rename_i fid a b hc
  split at h
  ·rename_i g s hE hs
   split at h
   ·rename_i ts hts
    obtain ⟨y,h1,h2⟩:=h
    refine ⟨_,?_,h2⟩
    unfold gR
    simp only[hc,hE,hts,h1,Option.map_some]
   ·rename_i hts
    split at h
    ·rename_i ts hm hfl
     obtain ⟨y,h1,h2⟩:=h
     refine ⟨_,?_,h2⟩
     unfold gR
     simp only[hc,hE,hts,hm,h1,OJ hfl y,if_true]
    ·exact h.elim
  ·rename_i g s hE hs
   obtain ⟨y,h1,h2⟩:=h
   refine ⟨_,?_,h2⟩
   unfold gR
   simp only[hc,hE,h1,Option.map_some]
  ·rename_i g s hE hs
   split at h
   ·rename_i ts hts
    obtain ⟨y,h1,h2⟩:=h
    refine ⟨_,?_,h2⟩
    unfold gR
    simp only[hc,hE,hts,h1,Option.map_some]
   ·exact h.elim
  ·rename_i g s hE hs
   split at h
   ·rename_i ts hts
    obtain ⟨y,h1,h2⟩:=h
    refine ⟨_,?_,h2⟩
    unfold gR
    simp only[hc,hE,hts,h1,Option.map_some]
   ·exact h.elim
  ·rename_i g s hE hs
   split at h
   ·rename_i ts hts
    obtain ⟨y,h1,h2⟩:=h
    refine ⟨_,?_,h2⟩
    unfold gR
    simp only[hc,hE,hts,h1,Option.map_some]
   ·exact h.elim
  ·exact h.elim
 ·exact h.elim
theorem BV {t:TypeId} {a b:D} {K:D→Prop} (h:EC gJ P t a b K):∃ d,BU P t a b=some d∧K d:=by
 unfold EC at h
 split at h
 ·rename_i e he
  split at h
  ·rename_i z by_ zv k1 x k2 y hz hby hzv
   split at h
   ·rename_i hc
    obtain ⟨hb,hk⟩:=h
    refine ⟨_,?_,hk⟩
    simp only[BU,he,hz,hby,hzv,hc,hb,Bool.and_self]
   ·exact h.elim
  ·exact h.elim
 ·exact h.elim
theorem sP:∀ {rows:List (List T)} {xs:List Int},dW rows=xs.map (Sy.int .u8).enc→mW rows=some xs
 | [],[],_=>rfl
 | [],_::_,h=>by cases h
 | _::_,[],h=>by cases h
 | r::rows,n::xs,h=>by
  unfold dW at h
  rw[List.map_cons,List.map_cons] at h
  obtain ⟨h1,h2⟩:=List.cons.inj h
  have ih:=sP (rows:=rows) (xs:=xs) h2
  match r,h1 with
  | [],h1=>cases h1
  | [t],h1 =>
   have h3:T.canon 0 t = .v (.int .u8 n):=(List.cons.inj h1).1
   have e:t = .v (.int .u8 n):=by
    cases t with
    | v v =>
     unfold T.canon at h3
     split at h3<;>first|exact h3|cases h3
    | _=>simp[T.canon] at h3
   subst e
   simp only[mW,ih,Option.map_some]
  | _::_::_,h1=>cases (List.cons.inj h1).2
theorem AS {σ:Nat→Option aE} {src dst:TypeId} {d:D} {K:D→Prop} (h:DK gJ P σ src dst d K):∃ r,vX P σ src dst d=some r∧K r:=by
 unfold DK at h
 split at h
 ·split at h
  ·rename_i hσ hs hd
   split at h
   ·rename_i he hz
    obtain ⟨xs,hx,hb,hk⟩:=h
    refine ⟨_,?_,hk⟩
    simp only[vX,hσ,hs,hd,he,sP hx]
    rw[if_pos ⟨of_decide_eq_true hz,of_decide_eq_true hb⟩]
   ·exact h.elim
  ·exact h.elim
 ·rename_i hn
  obtain ⟨r,h1,h2⟩:=a8 h
  refine ⟨r,?_,h2⟩
  unfold vX
  split
  ·exact absurd rfl (hn _)
  ·exact h1
theorem MG {n:Nat} {σ:Nat→Option aE} {s₀ s:Nat→D} {op:Op} {K:D→Prop} (h:VI gJ P E n σ s₀ s op K):∃ d,qv P E n σ s₀ s true op=some d∧K d:=by
 unfold VI at h
 split at h
 ·exact HT h
 ·exact BV h
 ·exact D9 h
 ·exact GX h
 ·exact CD h
 ·exact DC h
 ·exact EB h
 ·rename_i src dst x
  split at h
  ·rename_i hm
   obtain ⟨d,h1,h2⟩:=AS h
   refine ⟨d,?_,h2⟩
   simp only[qv,hm]
   exact h1
  ·rename_i hm
   obtain ⟨d,h1,h2⟩:=a8 h
   refine ⟨d,?_,h2⟩
   simp only[qv,hm]
   exact h1
 ·rename_i c
  split at h
  ·rename_i f hf
   obtain ⟨d,h1,h2⟩:=DE h
   refine ⟨d,?_,h2⟩
   simp only[qv,hf]
   exact h1
  ·exact a8 h
 ·exact a8 h
end
end Go.Pv
