/-
  The symbolic executor, part b: operations.
-/
import Derived.Test.YtlongjgklndggaaGreatDoorVbka
set_option linter.defProp false
set_option linter.unusedSimpArgs false
namespace Go.Pv
open Go Go.RowKit
section
variable (C : Combs) (P : Program) (E : Env)
def gZ (c:Nat) (x:Option D) (K:D→Prop):Prop:=match x with
 | some d=>K d
 | none=>C.bad c
def Sy.isAny:Sy→Bool
 | .any=>true
 | _=>false
def n0 (j:Int) (K:Int→Prop):Nat→Nat→Prop
 | 0,_=>C.bad 18
 | n+1,i=>aC (decide (j=Int.ofNat i)) (K (Int.ofNat i)) (n0 j K n (i+1))
def Q0 (σ:Nat→Option aB) (t:TypeId) (d i:D) (K:D→Prop):Prop :=
 match i,eM P t with
 | .p (.v (.int _ j)),some e =>
  match tsz? P e,zF P e with
  | some z,some r =>
   match r.isAny with
   | true=>gZ C 17 (a8 P σ t d i) K
   | false =>
   match r.w == z,d with
   | true,.p tt=>match bT tt with
    | some (_,rows)=>C.rows r rows j fun y=>K (.p (.ref (r.enc y)))
    | none=>C.bad 11
   | true,.own k=>match σ k with
    | some (.arr _ _ rows)=>C.rows r rows j fun _=>K (.ptr k j.toNat 0)
    | _=>gZ C 12 (a8 P σ t d i) K
   | true,.bs k off len=>match σ k with
    | some (.arr _ _ rows)=>C.kZ (decide (0≤j)&&decide (j.toNat<len)) (C.rows r rows (off+j.toNat:Nat) fun _=>K (.ptr k (off+j.toNat) 0))
    | _=>gZ C 13 (a8 P σ t d i) K
   | _,_=>C.bad 14
  | _,_=>C.bad 15
 | .p (.v (.int kk j)),none=>match zV P t with
  | some (m,_)=>match decide (m≤8) with
   | true=>n0 C j (fun j=>gZ C 19 (a8 P σ t d (.p (.v (.int kk j)))) K) m 0
   | false=>gZ C 16 (a8 P σ t d i) K
  | none=>gZ C 16 (a8 P σ t d i) K
 | _,_=>gZ C 16 (a8 P σ t d i) K
def KS (σ:Nat→Option aB) (t:TypeId) (d:D) (K:D→Prop):Prop :=
 match d with
 | .ptr k i o=>match σ k with
  | some (.arr _ _ rows)=>match zF P t,mA P t,tsz? P t with
   | some r,some ag,some n=>match r.w == n&&(ag||n == 1) with
    | true=>C.part r rows i o fun y=>K (.p (bI ag r y))
    | false=>C.bad 21
   | _,_,_=>C.bad 22
  | _=>gZ C 23 (kU P σ t d) K
 | _=>gZ C 24 (kU P σ t d) K
def M5 (op:BinOp) (t:TypeId) (x y:D) (K:D→Prop):Prop :=
 match op with
 | .quo=>match x,y with
  | .p (.v (.int k a)),.p (.v (.int k' b))=>match decide (k=k') with
   | true=>C.kZ (!decide (b=0)) (K (.p (.v (.int k (k.wrap (a.tdiv b))))))
   | false=>C.bad 31
  | _,_=>C.bad 32
 | .rem=>match x,y with
  | .p (.v (.int k a)),.p (.v (.int k' b))=>match decide (k=k') with
   | true=>C.kZ (!decide (b=0)) (K (.p (.v (.int k (a.tmod b)))))
   | false=>C.bad 33
  | _,_=>C.bad 34
 | .add=>match x,y with
  | .p (.v (.string a)),.p (.v (.string b))=>C.kZ (decide (((a.size+b.size:Nat):Int)≤9223372036854775807)) (K (.p (.v (.string (a++b)))))
  | _,_=>gZ C 35 (qF P .add t x y) K
 | op=>gZ C 36 (qF P op t x y) K
def EE (op:BinOp) (t:TypeId) (x y:D) (K:D→Prop):Prop :=
 match op with
 | .shl=>match x,y with
  | .p (.v (.int k a)),.p (.v (.int _ b))=>C.kZ (decide (0≤b)&&decide (b≤k.bits)) (K (.p (.v (.int k (k.wrap (a*2 ^ b.toNat))))))
  | _,_=>C.bad 37
 | .shr=>match x,y with
  | .p (.v (.int k a)),.p (.v (.int _ b))=>C.kZ (decide (0≤b)&&decide (b≤k.bits)) (K (.p (.v (.int k (a / 2 ^ b.toNat)))))
  | _,_=>C.bad 38
 | op=>M5 C P op t x y K
def vG (d:Option D) (dflt:Nat):Option (Nat×Bool):=match d with
 | none=>some (dflt,true)
 | some (.p (.v (.int _ i)))=>some (i.toNat,decide (0≤i))
 | _=>none
def EF (σ:Nat→Option aB) (t:TypeId) (d:D) (lo hi mx:Option D) (K:D→Prop):Prop :=
 match mx with
 | some _=>gZ C 41 (dW P σ t d lo hi mx) K
 | none=>match eM P t with
  | some e=>match tsz? P e with
   | some z=>match d with
    | .p tt=>match bT tt with
     | some (full,rows)=>match vG hi rows.length,vG lo 0 with
      | some (h,bh),some (l,bl)=>C.kZ (nA z rows&&(bh&&decide (h≤rows.length))&&(bl&&decide (l≤h))) (K (.p (.sl (full&&decide (h=rows.length)) ((rows.take h).drop l))))
      | _,_=>C.bad 42
     | none=>C.bad 43
    | .own k=>match σ k with
     | some (.arr _ _ rows)=>match vG hi rows.length,vG lo 0 with
      | some (h,bh),some (l,bl)=>C.kZ ((bh&&decide (h≤rows.length))&&(bl&&decide (l≤h))) (aC (decide (h=l)) (K (.p (.sl false []))) (C.kZ (dR σ k z) (K (.bs k l (h-l)))))
      | _,_=>C.bad 44
     | _=>gZ C 45 (dW P σ t d lo hi mx) K
    | .bs k off len=>match vG hi len,vG lo 0 with
     | some (h,bh),some (l,bl)=>C.kZ ((bh&&decide (h≤len))&&(bl&&decide (l≤h))) (aC (decide (h=l)) (K (.p (.sl false []))) (C.kZ (dR σ k z) (K (.bs k (off+l) (h-l)))))
     | _,_=>C.bad 46
    | _=>C.bad 47
   | none=>C.bad 48
  | none=>match P.underlying t,d with
   | some .string,.p (.v (.string s))=>match vG hi s.size,vG lo 0 with
    | some (h,bh),some (l,bl)=>C.kZ ((bh&&decide (h≤s.size))&&(bl&&decide (l≤h))) (K (.p (.v (.string (s.extract l h)))))
    | _,_=>C.bad 49
   | _,_=>gZ C 50 (dW P σ t d lo hi mx) K
def JQ (t:TypeId) (d i:D) (K:D→Prop):Prop :=
 match i,d,P.underlying t with
 | .p (.v (.int _ j)),.p (.v (.string s)),some .string=>C.byte s j fun b=>K (.p (.v (.int .u8 b)))
 | _,_,_=>gZ C 51 (o6 P t d i) K
def KT (σ:Nat→Option aB) (t:TypeId) (x i:D) (ok:Bool) (K:D→Prop):Prop :=
 match P.underlying t with
 | some (.map kt et) =>
  match jO P kt,i,tz? P et with
  | some kd,.p (.v k),some z =>
   match mY kd k,x with
   | true,.map m =>
    match σ m with
    | some (.map _ es)=>match mA P et,zF P et with
     | some ag,some r=>C.find kd k es ag r (K (match ok with|true=>rH (.p (.v z)) (.v (.bool false))|false=>.p (.v z)))
       fun _ y=>K (match ok with|true=>.p (.aR [bI ag r y,.v (.bool true)])|false=>.p (bI ag r y))
     | _,_=>C.bad 61
    | _=>C.bad 62
   | true,.p (.mp es)=>match mA P et,zF P et with
    | some ag,some r=>C.find kd k (wO es) ag r (K (match ok with|true=>rH (.p (.v z)) (.v (.bool false))|false=>.p (.v z)))
      fun _ y=>K (match ok with|true=>.p (.aR [bI ag r y,.v (.bool true)])|false=>.p (bI ag r y))
    | _,_=>C.bad 66
   | _,_=>gZ C 63 (j3 P σ t x i ok) K
  | _,_,_=>C.bad 64
 | _=>C.bad 65
def kN:Sy→Bool
 | .int _=>true
 | .bool=>true
 | .str=>true
 | .pr a b=>kN a&&kN b
 | _=>false
def wW (fid:FuncId):Option Sh:=match P.funcs[fid]? with
 | some fn=>RT P fn.resultTypes.toList
 | none=>none
def JS (σ:Nat→Option aB) (n:Nat) (f:D) (args:List D) (K:D→Prop):Prop :=
 match dK f with
 | some (fid,a,b)=>match E fid,wW P fid with
  | some (.pure g),some s=>match dM (a++args++b) with
   | some ts=>C.call s (g ts) fun y=>K (.p (Sh.enc s y))
   | none=>match (a++args++b).mapM (c0 σ 4),s.all (fun x=>kN x.2) with
    | some ts,true=>C.call s (g ts) fun y=>K (.p (Sh.enc s y))
    | _,_=>C.bad 71
  | some (.read g),some s=>C.call s (g (a++args++b) σ n) fun y=>K (.p (Sh.enc s y))
  | some (.new g),some s=>match (a++args++b).mapM (c0 σ 4) with
   | some ts=>C.call s (g ts) fun y=>K (.p (Sh.enc s y))
   | none=>C.bad 74
  | some (.J7 g),some _=>match (a++args++b).mapM (c0 σ 4) with
   | some ts=>C.opt (List (ByteArray×Int)) (g ts) fun es=>K (.p (.mp (QR es)))
   | none=>C.bad 75
  | some (.ext g),some s=>match dM (a++args++b) with
   | some ts=>C.call s (g ts) fun y=>K (.p (Sh.enc s y))
   | none=>C.bad 76
  | _,_=>C.bad 72
 | none=>C.bad 73
def DT (t:TypeId) (len cap:D) (K:D→Prop):Prop :=
 match eM P t with
 | some e =>
  match tsz? P e,tby? P e,tz? P e,len,cap with
  | some z,some by_,some zv,.p (.v (.int _ a)),.p (.v (.int _ b)) =>
   match decide (0<z)&&zv.cells.size == z&&zv.cells.all Value.oneCell' with
   | true=>C.kZ (decide (a=b)&&decide (0≤b)&&decide (b*by_≤140737488355328)&&decide (b≤140737488355328)) (K (.p (.sl false (List.replicate a.toNat (zv.cells.toList.map .v)))))
   | false=>C.bad 18
  | _,_,_,_,_=>C.bad 19
 | none=>C.bad 20
def C5 (σ:Nat→Option aB) (src dst:TypeId) (d:D) (K:D→Prop):Prop :=
 match d with
 | .own k=>match σ k,P.underlying src,P.underlying dst with
  | some (.arr _ z rows),some (.slice e),some .string=>match P.underlying e,decide (z=1) with
   | some (.int .u8),true=>C.dec (.int .u8) rows fun xs=>C.kZ (decide (0<rows.length)) (K (.p (.v (.string (strOfNums xs)))))
   | _,_=>C.bad 21
  | _,_,_=>C.bad 22
 | d=>gZ C 83 (sL P src dst d) K
def xV (src dst:TypeId) (d:D) (K:D→Prop):Prop :=
 match d,P.underlying src,P.underlying dst with
 | .p (.v (.string s)),some .string,some (.slice e)=>match P.underlying e with
  | some (.int .u8)=>C.kZ (decide (s.size≤140737488355328)) (K (.p (.sl false (jI s))))
  | _=>C.bad 84
 | d,_,_=>gZ C 82 (pO P src dst d) K
def C6 (src dst:TypeId) (d:D) (K:D→Prop):Prop :=
 match d,P.underlying src,P.underlying dst with
 | .p (.sl fl rows),some (.slice e),some .string=>match P.underlying e with
  | some (.int .u8)=>C.dec (.int .u8) rows fun xs=>K (.p (.v (.string (strOfNums xs))))
  | _=>C.bad 85
 | d,_,_=>xV C P src dst d K
def UP (n:Nat) (σ:Nat→Option aB) (s₀ s:Nat→D) (op:Op) (K:D→Prop):Prop :=
 match op with
 | .indexAddr t x i=>Q0 C P σ t (ev s x) (ev s i) K
 | .makeSlice t l c=>DT C P t (ev s l) (ev s c) K
 | .load t a=>KS C P σ t (ev s a) K
 | .binOp op t x y _=>match Env.marked E 8000000000 with
  | true=>EE C P op t (ev s x) (ev s y) K
  | false=>M5 C P op t (ev s x) (ev s y) K
 | .slice t x lo hi mx=>EF C P σ t (ev s x) (lo.map (ev s)) (hi.map (ev s)) (mx.map (ev s)) K
 | .index t x i=>JQ C P t (ev s x) (ev s i) K
 | .lookup t x i ok=>KT C P σ t (ev s x) (ev s i) ok K
 | .convert src dst x=>match E.marked (6000000000+src) with
  | true=>C5 C P σ src dst (ev s x) K
  | false=>match Env.marked E 8000000000 with
   | true=>C6 C P src dst (ev s x) K
   | false=>xV C P src dst (ev s x) K
 | .call c=>match c.callee with
  | .value f=>JS C P E σ n (ev s f) (c.args.toList.map (ev s)) K
  | _=>gZ C 81 (qv P E n σ s₀ s true op) K
 | op=>gZ C 82 (qv P E n σ s₀ s true op) K
end
section
variable {P : Program} {E : Env}
theorem a7 {c:Nat} {x:Option D} {K:D→Prop} (h:gZ fB c x K):∃ d,x=some d∧K d:=by
 unfold gZ at h
 split at h
 ·exact ⟨_,rfl,h⟩
 ·exact h.elim
theorem H6 (l:List T):wN (l.map .p) = .p (.agg l):=by unfold wN;rw[r6]
theorem mH {j:Int} {K:Int→Prop}:∀ {n i:Nat},n0 fB j K n i→∃ q,j=q∧K q
 | 0,_,h=>h.elim
 | n+1,i,h=>by
  unfold n0 at h
  cases hd:decide (j=Int.ofNat i) with
  | true=>rw[hd] at h;exact ⟨_,of_decide_eq_true hd,h⟩
  | false=>rw[hd] at h;exact mH (n:=n) (i:=i+1) h
theorem HP {σ:Nat→Option aB} {t:TypeId} {d i:D} {K:D→Prop} (h:Q0 fB P σ t d i K):∃ r,a8 P σ t d i=some r∧K r:=by
 unfold Q0 at h
 split at h
 ·rename_i kk j e he
  split at h
  ·rename_i z r hz hr
   split at h
   ·exact a7 h
   split at h
   ·rename_i tt hw
    have hw:r.w=z:=by simpa using hw
    split at h
    ·rename_i f rows hrows
     obtain ⟨y,h0,h1,h2⟩:=h
     refine ⟨_,?_,h2⟩
     unfold a8
     have:¬ j<0:=by omega
     simp only[this,if_false,he,hz,hrows,h1,Sy.bD,hw,if_true]
    ·exact h.elim
   ·rename_i k hw
    have hw:r.w=z:=by simpa using hw
    split at h
    ·rename_i ro zz rows hσ
     obtain ⟨y,h0,h1,h2⟩:=h
     refine ⟨_,?_,h2⟩
     unfold a8
     have:¬ j<0:=by omega
     have hR:(σ k).bind bF=some (aA rows):=by rw[hσ];rfl
     simp only[this,if_false,he,hz,hR,pRows_get?,h1,Option.map_some,List.length_map,Sy.bD,hw,if_true]
    ·exact a7 h
   ·rename_i k off len hw
    have hw:r.w=z:=by simpa using hw
    split at h
    ·rename_i ro zz rows hσ
     obtain ⟨hb,y,h0,h1,h2⟩:=h
     simp only[Bool.and_eq_true,decide_eq_true_eq] at hb
     refine ⟨_,?_,h2⟩
     unfold a8
     have:¬ j<0:=by omega
     have hR:(σ k).bind bF=some (aA rows):=by rw[hσ];rfl
     simp only[Int.toNat_natCast] at h1
     simp only[this,if_false,he,hz,hb.2,if_true,hR,pRows_get?,h1,Option.map_some,List.length_map,Sy.bD,hw,if_true]
    ·exact a7 h
   ·exact h.elim
  ·exact h.elim
 ·split at h
  ·split at h
   ·obtain ⟨_,rfl,h⟩:=mH h
    exact a7 h
   ·exact a7 h
  ·exact a7 h
 ·exact a7 h
theorem DQ {σ:Nat→Option aB} {t:TypeId} {d:D} {K:D→Prop} (h:KS fB P σ t d K):∃ r,kU P σ t d=some r∧K r:=by
 unfold KS at h
 split at h
 ·rename_i k i o
  split at h
  ·rename_i ro zz rows hσ
   split at h
   ·rename_i r ag n hr hag hn
    split at h
    ·rename_i hw
     simp only[Bool.and_eq_true,beq_iff_eq,Bool.or_eq_true] at hw
     obtain ⟨row,y,h1,h2,h3,h4⟩:=h
     refine ⟨_,?_,h4⟩
     have hR:(σ k).bind bF=some (aA rows):=by rw[hσ];rfl
     unfold kU
     simp only[hag,hn,hR,pRows_get?,h1,Option.map_some]
     cases ag with
     | true =>
      have:o+n≤(row.map D.p).length:=by simp;omega
      simp only[if_true,this]
      rw[←List.map_drop,←List.map_take,←hw.1,h3,H6]
      rfl
     | false =>
      have hn1:n=1:=by simpa using hw.2
      have hw1:r.w=1:=by omega
      have hl:(r.enc y).length=1:=by rw[Sy.bD];exact hw1
      obtain ⟨x,hx⟩:=List.length_eq_one_iff.1 hl
      have:row[o]? = some x:=by
       have h5:((row.drop o).take r.w)[0]? = some x:=by rw[h3,hx];rfl
       rw[hw1] at h5
       simpa [List.getElem?_take,List.getElem?_drop] using h5
      simp only[Bool.false_eq_true,if_false,List.getElem?_map,this,Option.map_some,bI,hx,R9]
    ·exact h.elim
   ·exact h.elim
  ·exact a7 h
 ·exact a7 h
theorem vW {op:BinOp} {t:TypeId} {x y:D} {K:D→Prop} (h:M5 fB P op t x y K):∃ r,qF P op t x y=some r∧K r:=by
 unfold M5 at h
 split at h
 ·split at h
  ·rename_i k a k' b
   split at h
   ·rename_i hk
    have hk:=of_decide_eq_true hk
    subst hk
    obtain ⟨hb,h⟩:=h
    have hb:¬ b=0:=by simpa using hb
    exact ⟨_,by simp[qF,l8,vF,zX,yE,hb],h⟩
   ·exact h.elim
  ·exact h.elim
 ·split at h
  ·rename_i k a k' b
   split at h
   ·rename_i hk
    have hk:=of_decide_eq_true hk
    subst hk
    obtain ⟨hb,h⟩:=h
    have hb:¬ b=0:=by simpa using hb
    exact ⟨_,by simp[qF,l8,vF,zX,yE,hb],h⟩
   ·exact h.elim
  ·exact h.elim
 ·split at h
  ·rename_i a b
   obtain ⟨hb,h⟩:=h
   have hb:((a.size+b.size:Nat):Int)≤9223372036854775807:=of_decide_eq_true hb
   exact ⟨_,by simp only[qF,l8,vF,zX,EK,if_pos hb,Option.map_some],h⟩
  ·exact a7 h
 ·exact a7 h
theorem BZ {op:BinOp} {t:TypeId} {x y:D} {K:D→Prop} (h:EE fB P op t x y K):∃ r,qF P op t x y=some r∧K r:=by
 unfold EE at h
 split at h
 ·split at h
  ·rename_i k a k' b
   obtain ⟨hb,h⟩:=h
   rw[Bool.and_eq_true,decide_eq_true_eq,decide_eq_true_eq] at hb
   exact ⟨_,by simp[qF,l8,vF,zX,hb],h⟩
  ·exact h.elim
 ·split at h
  ·rename_i k a k' b
   obtain ⟨hb,h⟩:=h
   rw[Bool.and_eq_true,decide_eq_true_eq,decide_eq_true_eq] at hb
   exact ⟨_,by simp[qF,l8,vF,zX,hb],h⟩
  ·exact h.elim
 ·exact vW h
theorem cP {d:Option D} {dflt m hi:Nat} {b:Bool} (h:vG d dflt=some (m,b)) (hb:(b&&decide (m≤hi))=true):fW d dflt hi=some m:=by
 simp only[Bool.and_eq_true,decide_eq_true_eq] at hb
 unfold vG at h
 split at h
 ·cases h;simp[fW,hb.2]
 ·rename_i k i
  cases h
  have h0:0≤i:=of_decide_eq_true hb.1
  have h1:i≤hi:=by have:=hb.2;omega
  simp[fW,h0,h1]
 ·cases h
theorem B2 {σ:Nat→Option aB} {t:TypeId} {d:D} {lo hi mx:Option D} {K:D→Prop} (h:EF fB P σ t d lo hi mx K):∃ r,dW P σ t d lo hi mx=some r∧K r:=by
 unfold EF at h
 split at h
 ·exact a7 h
 ·split at h
  ·rename_i e he
   split at h
   ·rename_i z hz
    split at h
    ·rename_i tt
     split at h
     ·rename_i full rows hrows
      split at h
      ·rename_i hN bh lN bl h1 h2
       obtain ⟨hb,h⟩:=h
       rw[Bool.and_eq_true,Bool.and_eq_true] at hb
       refine ⟨_,?_,h⟩
       unfold dW
       simp only[he,hz,hrows,hb.1.1,if_true,cP h1 hb.1.2,cP h2 hb.2]
      ·exact h.elim
     ·exact h.elim
    ·rename_i k
     split at h
     ·rename_i ro zz rows hσ
      split at h
      ·rename_i hN bh lN bl h1 h2
       obtain ⟨hb,h⟩:=h
       rw[Bool.and_eq_true] at hb
       have hR:(σ k).bind bF=some (aA rows):=by rw[hσ];rfl
       rw[fK] at h
       by_cases heq:hN=lN
       ·refine ⟨_,?_,h.1 (by simpa using heq)⟩
        unfold dW
        simp only[he,hz,hR,aE,cP h1 hb.1,cP h2 hb.2];rw[if_pos heq]
       ·obtain ⟨hw,hk⟩:=h.2 (by simpa using heq)
        refine ⟨_,?_,hk⟩
        unfold dW
        simp only[he,hz,hR,aE,cP h1 hb.1,cP h2 hb.2];rw[if_neg heq,if_pos hw]
      ·exact h.elim
     ·exact a7 h
    ·rename_i k off len
     split at h
     ·rename_i hN bh lN bl h1 h2
      obtain ⟨hb,h⟩:=h
      rw[Bool.and_eq_true] at hb
      rw[fK] at h
      by_cases heq:hN=lN
      ·refine ⟨_,?_,h.1 (by simpa using heq)⟩
       unfold dW
       simp only[he,hz,cP h1 hb.1,cP h2 hb.2];rw[if_pos heq]
      ·obtain ⟨hw,hk⟩:=h.2 (by simpa using heq)
       refine ⟨_,?_,hk⟩
       unfold dW
       simp only[he,hz,cP h1 hb.1,cP h2 hb.2];rw[if_neg heq,if_pos hw]
     ·exact h.elim
    ·exact h.elim
   ·exact h.elim
  ·rename_i he
   split at h
   ·rename_i s hu
    split at h
    ·rename_i hN bh lN bl h1 h2
     obtain ⟨hb,h⟩:=h
     rw[Bool.and_eq_true] at hb
     refine ⟨_,?_,h⟩
     unfold dW
     simp only[he,hu,cP h1 hb.1,cP h2 hb.2]
    ·exact h.elim
   ·exact a7 h
theorem CZ {t:TypeId} {d i:D} {K:D→Prop} (h:JQ fB P t d i K):∃ r,o6 P t d i=some r∧K r:=by
 unfold JQ at h
 split at h
 ·rename_i kk j s hu
  obtain ⟨b,h0,h1,h2⟩:=h
  refine ⟨_,?_,h2⟩
  unfold o6
  have:¬ j<0:=by omega
  simp only[this,if_false,hu,h1,Option.map_some]
 ·exact a7 h
theorem DS {σ:Nat→Option aB} {t:TypeId} {x i:D} {ok:Bool} {K:D→Prop} (h:KT fB P σ t x i ok K):∃ r,j3 P σ t x i ok=some r∧K r:=by
 unfold KT at h
 split at h
 ·rename_i kt et hu
  split at h
  ·rename_i kd k z hk hz
   split at h
   ·rename_i m hkey
    split at h
    ·rename_i ro es hσ
     split at h
     ·rename_i ag r hag hr
      rcases h with ⟨h1,h2⟩|⟨i,y,h1,h2⟩
      ·refine ⟨_,?_,h2⟩
       unfold j3
       simp only[hu,hk,hz,hkey,hσ,h1]
       cases ok<;>rfl
      ·refine ⟨_,?_,h2⟩
       unfold j3
       simp only[hu,hk,hz,hkey,hσ,h1]
       cases ok<;>rfl
     ·exact h.elim
    ·exact h.elim
   ·rename_i es hkey
    split at h
    ·rename_i ag r hag hr
     rcases h with ⟨h1,h2⟩|⟨i,y,h1,h2⟩
     ·refine ⟨_,?_,h2⟩
      unfold j3
      simp only[hu,hk,hz,hkey,h1]
      cases ok<;>rfl
     ·refine ⟨_,?_,h2⟩
      unfold j3
      simp only[hu,hk,hz,hkey,h1]
      cases ok<;>rfl
    ·exact h.elim
   ·exact a7 h
  ·exact h.elim
 ·exact h.elim
theorem jK:∀ (r:Sy),kN r=true→∀ (x:r.den) (n:Nat),(r.enc x).all (T.hU n)=true
 | .int _,_,x,n=>by cases n<;>simp[Sy.enc,T.hU]
 | .bool,_,x,n=>by cases n<;>simp[Sy.enc,T.hU]
 | .str,_,x,n=>by cases n<;>simp[Sy.enc,T.hU]
 | .pr a b,h,x,n=>by
  simp only[kN,Bool.and_eq_true] at h
  simp only[Sy.enc,List.all_append,Bool.and_eq_true]
  exact ⟨jK a h.1 x.1 n,jK b h.2 x.2 n⟩
theorem oY {ag:Bool} {r:Sy} (h:kN r=true) (x:r.den) (n:Nat):T.hU (n+1) (bI ag r x)=true:=by
 have:=jK r h x (n+1)
 cases ag with
 | true=>exact jK r h x n
 | false =>
  simp only[bI]
  cases he:r.enc x with
  | nil=>rfl
  | cons a l=>rw[he] at this;simp only[List.all_cons,Bool.and_eq_true] at this;exact this.1
theorem wC:∀ (s:Sh),s.all (fun x=>kN x.2)=true→∀ (y:Sh.den s) (n:Nat),(Sh.dQ s y).all (T.hU (n+1))=true
 | [],_,_,_=>rfl
 | [a],h,y,n=>by
  simp only[List.all_cons,List.all_nil,Bool.and_true] at h
  simp only[Sh.dQ,List.all_cons,List.all_nil,Bool.and_true]
  exact oY h y n
 | a::b::l,h,y,n=>by
  rw[List.all_cons,Bool.and_eq_true] at h
  simp only[Sh.dQ,List.all_cons,Bool.and_eq_true] at *
  have:=wC (b::l) (by rw[List.all_cons,Bool.and_eq_true];exact h.2) y.2 n
  exact ⟨oY h.1 y.1 n,this⟩
theorem NN {s:Sh} (h:s.all (fun x=>kN x.2)=true) (y:Sh.den s):(Sh.enc s y).flat=true:=by
 unfold T.flat
 match s,h,y with
 | [],h,y=>rfl
 | [a],h,y =>
  simp only[List.all_cons,List.all_nil,Bool.and_true] at h
  exact oY h y 2
 | a::b::l,h,y=>exact wC (a::b::l) h y 1
theorem C1 {σ:Nat→Option aB} {n:Nat} {f:D} {args:List D} {K:D→Prop} (h:JS fB P E σ n f args K):∃ r,gK E σ n f args=some r∧K r:=by
 unfold JS at h
 split at h
 ·rename_i fid a b hc
  split at h
  ·rename_i g s hE hs
   split at h
   ·rename_i ts hts
    obtain ⟨y,h1,h2⟩:=h
    refine ⟨_,?_,h2⟩
    unfold gK
    simp only[hc,hE,hts,h1,Option.map_some]
   ·rename_i hts
    split at h
    ·rename_i ts hm hfl
     obtain ⟨y,h1,h2⟩:=h
     refine ⟨_,?_,h2⟩
     unfold gK
     simp only[hc,hE,hts,hm,h1,NN hfl y,if_true]
    ·exact h.elim
  ·rename_i g s hE hs
   obtain ⟨y,h1,h2⟩:=h
   refine ⟨_,?_,h2⟩
   unfold gK
   simp only[hc,hE,h1,Option.map_some]
  ·rename_i g s hE hs
   split at h
   ·rename_i ts hts
    obtain ⟨y,h1,h2⟩:=h
    refine ⟨_,?_,h2⟩
    unfold gK
    simp only[hc,hE,hts,h1,Option.map_some]
   ·exact h.elim
  ·rename_i g s hE hs
   split at h
   ·rename_i ts hts
    obtain ⟨y,h1,h2⟩:=h
    refine ⟨_,?_,h2⟩
    unfold gK
    simp only[hc,hE,hts,h1,Option.map_some]
   ·exact h.elim
  ·rename_i g s hE hs
   split at h
   ·rename_i ts hts
    obtain ⟨y,h1,h2⟩:=h
    refine ⟨_,?_,h2⟩
    unfold gK
    simp only[hc,hE,hts,h1,Option.map_some]
   ·exact h.elim
  ·exact h.elim
 ·exact h.elim
theorem BD {t:TypeId} {a b:D} {K:D→Prop} (h:DT fB P t a b K):∃ d,BC P t a b=some d∧K d:=by
 unfold DT at h
 split at h
 ·rename_i e he
  split at h
  ·rename_i z by_ zv k1 x k2 y hz hby hzv
   split at h
   ·rename_i hc
    obtain ⟨hb,hk⟩:=h
    refine ⟨_,?_,hk⟩
    simp only[BC,he,hz,hby,hzv,hc,hb,Bool.and_self]
   ·exact h.elim
  ·exact h.elim
 ·exact h.elim
theorem mP:∀ {rows:List (List T)} {xs:List Int},dU rows=xs.map (Sy.int .u8).enc→mO rows=some xs
 | [],[],_=>rfl
 | [],_::_,h=>by cases h
 | _::_,[],h=>by cases h
 | r::rows,n::xs,h=>by
  unfold dU at h
  rw[List.map_cons,List.map_cons] at h
  obtain ⟨h1,h2⟩:=List.cons.inj h
  have ih:=mP (rows:=rows) (xs:=xs) h2
  match r,h1 with
  | [],h1=>cases h1
  | [t],h1 =>
   have h3:T.canon 0 t = .v (.int .u8 n):=(List.cons.inj h1).1
   have e:t = .v (.int .u8 n):=by
    cases t with
    | v v =>
     unfold T.canon at h3
     split at h3<;>first|exact h3|cases h3
    | _=>simp[T.canon] at h3
   subst e
   simp only[mO,ih,Option.map_some]
  | _::_::_,h1=>cases (List.cons.inj h1).2
theorem AG {σ:Nat→Option aB} {src dst:TypeId} {d:D} {K:D→Prop} (h:C5 fB P σ src dst d K):∃ r,v8 P σ src dst d=some r∧K r:=by
 unfold C5 at h
 split at h
 ·split at h
  ·rename_i hσ hs hd
   split at h
   ·rename_i he hz
    obtain ⟨xs,hx,hb,hk⟩:=h
    refine ⟨_,?_,hk⟩
    simp only[v8,hσ,hs,hd,he,mP hx]
    rw[if_pos ⟨of_decide_eq_true hz,of_decide_eq_true hb⟩]
   ·exact h.elim
  ·exact h.elim
 ·rename_i hn
  obtain ⟨r,h1,h2⟩:=a7 h
  refine ⟨r,?_,h2⟩
  unfold v8
  split
  ·exact absurd rfl (hn _)
  ·exact h1
theorem pP {src dst:TypeId} {d:D} {K:D→Prop} (h:xV fB P src dst d K):∃ r,pO P src dst d=some r∧K r:=by
 unfold xV at h
 split at h
 ·rename_i s e hs hd
  split at h
  ·rename_i he
   obtain ⟨hb,hk⟩:=h
   refine ⟨_,?_,hk⟩
   simp only[pO,sL,E2,hs,hd,he,hb]
  ·exact h.elim
 ·exact a7 h
theorem AH {src dst:TypeId} {d:D} {K:D→Prop} (h:C6 fB P src dst d K):∃ r,pO P src dst d=some r∧K r:=by
 unfold C6 at h
 split at h
 ·rename_i fl rows e hs hd
  split at h
  ·rename_i he
   obtain ⟨xs,hx,hk⟩:=h
   refine ⟨_,?_,hk⟩
   simp only[pO,sL,bT,hs,hd,he,mP hx]
  ·exact h.elim
 ·exact pP h
theorem LR {n:Nat} {σ:Nat→Option aB} {s₀ s:Nat→D} {op:Op} {K:D→Prop} (h:UP fB P E n σ s₀ s op K):∃ d,qv P E n σ s₀ s true op=some d∧K d:=by
 unfold UP at h
 split at h
 ·exact HP h
 ·exact BD h
 ·exact DQ h
 ·split at h
  ·exact BZ h
  ·exact vW h
 ·exact B2 h
 ·exact CZ h
 ·exact DS h
 ·rename_i src dst x
  split at h
  ·rename_i hm
   obtain ⟨d,h1,h2⟩:=AG h
   refine ⟨d,?_,h2⟩
   simp only[qv,hm]
   exact h1
  ·rename_i hm
   have h:∃ r,pO P src dst (ev s x)=some r∧K r:=by
    split at h
    ·exact AH h
    ·exact pP h
   obtain ⟨d,h1,h2⟩:=h
   refine ⟨d,?_,h2⟩
   simp only[qv,hm]
   exact h1
 ·rename_i c
  split at h
  ·rename_i f hf
   obtain ⟨d,h1,h2⟩:=C1 h
   refine ⟨d,?_,h2⟩
   simp only[qv,hf]
   exact h1
  ·exact a7 h
 ·exact a7 h
end
end Go.Pv
