/-
  The symbolic executor, part b: operations.
-/
import Derived.Test.YtipdohmdckdoeaaGreatDoorVfka
set_option linter.defProp false
set_option linter.unusedSimpArgs false
namespace Go.Pv
open Go Go.RowKit
section
variable (C : Combs) (P : Program) (E : Env)
def rL (c:Nat) (x:Option D) (K:D->Prop):Prop:=match x with
 | some d=>K d
 | none=>C.bad c
def Sy.isAny:Sy->Bool
 | .any=>true
 | _=>false
def EU (j:Int) (K:Int->Prop):Nat->Nat->Prop
 | 0,_=>C.bad 18
 | n+1,i=>aD (decide (j=Int.ofNat i)) (K (Int.ofNat i)) (EU j K n (i+1))
def BHX (σ:Nat->Option bE) (t:TypeId) (d i:D) (K:D->Prop):Prop :=
 match i,lI P t with
 | .p (.v (.int _ j)),some e =>
  match tsz? P e,AD9 P e with
  | some z,some r =>
   match r.isAny with
   | true=>rL C 17 (dH P σ t d i) K
   | false =>
   match r.w == z,d with
   | true,.p tt=>match fK tt with
    | some (_,rows)=>C.rows r rows j λy=>K (.p (.ref (r.enc y)))
    | none=>C.bad 11
   | true,.own k=>match σ k with
    | some (.arr _ _ rows)=>C.rows r rows j λ_=>K (.ptr k j.toNat 0)
    | _=>rL C 12 (dH P σ t d i) K
   | true,.bs k off len=>match σ k with
    | some (.arr _ _ rows)=>C.yJ (decide (0<=j)&&decide (j.toNat<len)) (C.rows r rows (off+j.toNat:Nat) λ_=>K (.ptr k (off+j.toNat) 0))
    | _=>rL C 13 (dH P σ t d i) K
   | _,_=>C.bad 14
  | _,_=>C.bad 15
 | .p (.v (.int kk j)),none=>match ZZ P t with
  | some (m,_)=>match decide (m<=8) with
   | true=>EU C j (λj=>rL C 19 (dH P σ t d (.p (.v (.int kk j)))) K) m 0
   | false=>rL C 16 (dH P σ t d i) K
  | none=>rL C 16 (dH P σ t d i) K
 | _,_=>rL C 16 (dH P σ t d i) K
def A3T (σ:Nat->Option bE) (t:TypeId) (d:D) (K:D->Prop):Prop :=
 match d with
 | .ptr k i o=>match σ k with
  | some (.arr _ _ rows)=>match AD9 P t,A7 P t,tsz? P t with
   | some r,some ag,some n=>match r.w == n&&(ag||n == 1) with
    | true=>C.part r rows i o λy=>K (.p (aF ag r y))
    | false=>C.bad 21
   | _,_,_=>C.bad 22
  | _=>rL C 23 (uM P σ t d) K
 | _=>rL C 24 (uM P σ t d) K
def A9U (op:BinOp) (t:TypeId) (x y:D) (K:D->Prop):Prop :=
 match op with
 | .quo=>match x,y with
  | .p (.v (.int k a)),.p (.v (.int k' b))=>match decide (k=k') with
   | true=>C.yJ (!decide (b=0)) (K (.p (.v (.int k (k.wrap (a.tdiv b))))))
   | false=>C.bad 31
  | _,_=>C.bad 32
 | .rem=>match x,y with
  | .p (.v (.int k a)),.p (.v (.int k' b))=>match decide (k=k') with
   | true=>C.yJ (!decide (b=0)) (K (.p (.v (.int k (a.tmod b)))))
   | false=>C.bad 33
  | _,_=>C.bad 34
 | .add=>match x,y with
  | .p (.v (.string a)),.p (.v (.string b))=>C.yJ (decide (((a.size+b.size:Nat):Int)<=9223372036854775807)) (K (.p (.v (.string (a++b)))))
  | _,_=>rL C 35 (JX P .add t x y) K
 | op=>rL C 36 (JX P op t x y) K
def AJ6 (op:BinOp) (t:TypeId) (x y:D) (K:D->Prop):Prop :=
 match op with
 | .shl=>match x,y with
  | .p (.v (.int k a)),.p (.v (.int _ b))=>C.yJ (decide (0<=b)&&decide (b<=k.bits)) (K (.p (.v (.int k (k.wrap (a*2 ^ b.toNat))))))
  | _,_=>C.bad 37
 | .shr=>match x,y with
  | .p (.v (.int k a)),.p (.v (.int _ b))=>C.yJ (decide (0<=b)&&decide (b<=k.bits)) (K (.p (.v (.int k (a / 2 ^ b.toNat)))))
  | _,_=>C.bad 38
 | op=>A9U C P op t x y K
def QS (d:Option D) (dflt:Nat):Option (Nat×Bool):=match d with
 | none=>some (dflt,true)
 | some (.p (.v (.int _ i)))=>some (i.toNat,decide (0<=i))
 | _=>none
def AJ8 (σ:Nat->Option bE) (t:TypeId) (d:D) (lo hi mx:Option D) (K:D->Prop):Prop :=
 match mx with
 | some _=>rL C 41 (lG P σ t d lo hi mx) K
 | none=>match lI P t with
  | some e=>match tsz? P e with
   | some z=>match d with
    | .p tt=>match fK tt with
     | some (full,rows)=>match QS hi rows.length,QS lo 0 with
      | some (h,bh),some (l,bl)=>C.yJ (HU z rows&&(bh&&decide (h<=rows.length))&&(bl&&decide (l<=h))) (K (.p (.sl (full&&decide (h=rows.length)) ((rows.take h).drop l))))
      | _,_=>C.bad 42
     | none=>C.bad 43
    | .own k=>match σ k with
     | some (.arr _ _ rows)=>match QS hi rows.length,QS lo 0 with
      | some (h,bh),some (l,bl)=>C.yJ ((bh&&decide (h<=rows.length))&&(bl&&decide (l<=h))) (aD (decide (h=l)) (K (.p (.sl false []))) (C.yJ (kX σ k z) (K (.bs k l (h-l)))))
      | _,_=>C.bad 44
     | _=>rL C 45 (lG P σ t d lo hi mx) K
    | .bs k off len=>match QS hi len,QS lo 0 with
     | some (h,bh),some (l,bl)=>C.yJ ((bh&&decide (h<=len))&&(bl&&decide (l<=h))) (aD (decide (h=l)) (K (.p (.sl false []))) (C.yJ (kX σ k z) (K (.bs k (off+l) (h-l)))))
     | _,_=>C.bad 46
    | _=>C.bad 47
   | none=>C.bad 48
  | none=>match P.underlying t,d with
   | some .string,.p (.v (.string s))=>match QS hi s.size,QS lo 0 with
    | some (h,bh),some (l,bl)=>C.yJ ((bh&&decide (h<=s.size))&&(bl&&decide (l<=h))) (K (.p (.v (.string (s.extract l h)))))
    | _,_=>C.bad 49
   | _,_=>rL C 50 (lG P σ t d lo hi mx) K
def AZM (t:TypeId) (d i:D) (K:D->Prop):Prop :=
 match i,d,P.underlying t with
 | .p (.v (.int _ j)),.p (.v (.string s)),some .string=>C.byte s j λb=>K (.p (.v (.int .u8 b)))
 | _,_,_=>rL C 51 (HJ P t d i) K
def A3V (σ:Nat->Option bE) (t:TypeId) (x i:D) (ok:Bool) (K:D->Prop):Prop :=
 match P.underlying t with
 | some (.map kt et) =>
  match vL P kt,i,tz? P et with
  | some kd,.p (.v k),some z =>
   match CM kd k,x with
   | true,.map m =>
    match σ m with
    | some (.map _ es)=>match A7 P et,AD9 P et with
     | some ag,some r=>C.find kd k es ag r (K (match ok with|true=>J8 (.p (.v z)) (.v (.bool false))|false=>.p (.v z)))
       λ_ y=>K (match ok with|true=>.p (.bY [aF ag r y,.v (.bool true)])|false=>.p (aF ag r y))
     | _,_=>C.bad 61
    | _=>C.bad 62
   | true,.p (.mp es)=>match A7 P et,AD9 P et with
    | some ag,some r=>C.find kd k (rK es) ag r (K (match ok with|true=>J8 (.p (.v z)) (.v (.bool false))|false=>.p (.v z)))
      λ_ y=>K (match ok with|true=>.p (.bY [aF ag r y,.v (.bool true)])|false=>.p (aF ag r y))
    | _,_=>C.bad 66
   | _,_=>rL C 63 (wE P σ t x i ok) K
  | _,_,_=>C.bad 64
 | _=>C.bad 65
def xG:Sy->Bool
 | .int _=>true
 | .bool=>true
 | .str=>true
 | .pr a b=>xG a&&xG b
 | _=>false
def A5U (fid:FuncId):Option Sh:=match P.funcs[fid]? with
 | some fn=>shL P fn.resultTypes.toList
 | none=>none
def AZO (σ:Nat->Option bE) (n:Nat) (f:D) (args:List D) (K:D->Prop):Prop :=
 match j5 f with
 | some (fid,a,b)=>match E fid,A5U P fid with
  | some (.pure g),some s=>match nL (a++args++b) with
   | some ts=>C.call s (g ts) λy=>K (.p (Sh.enc s y))
   | none=>match (a++args++b).mapM (jB σ 4),s.all (λx=>xG x.2) with
    | some ts,true=>C.call s (g ts) λy=>K (.p (Sh.enc s y))
    | _,_=>C.bad 71
  | some (.read g),some s=>C.call s (g (a++args++b) σ n) λy=>K (.p (Sh.enc s y))
  | some (.new g),some s=>match (a++args++b).mapM (jB σ 4) with
   | some ts=>C.call s (g ts) λy=>K (.p (Sh.enc s y))
   | none=>C.bad 74
  | some (.AQQ g),some _=>match (a++args++b).mapM (jB σ 4) with
   | some ts=>C.opt (List (iII×Int)) (g ts) λes=>K (.p (.mp (bP es)))
   | none=>C.bad 75
  | some (.ext g),some s=>match nL (a++args++b) with
   | some ts=>C.call s (g ts) λy=>K (.p (Sh.enc s y))
   | none=>C.bad 76
  | _,_=>C.bad 72
 | none=>C.bad 73
def AIW (t:TypeId) (len cap:D) (K:D->Prop):Prop :=
 match lI P t with
 | some e =>
  match tsz? P e,tby? P e,tz? P e,len,cap with
  | some z,some by_,some zv,.p (.v (.int _ a)),.p (.v (.int _ b)) =>
   match decide (0<z)&&zv.cells.size == z&&zv.cells.all Value.oneCell' with
   | true=>C.yJ (decide (a=b)&&decide (0<=b)&&decide (b*by_<=140737488355328)&&decide (b<=140737488355328)) (K (.p (.sl false (List.replicate a.toNat (zv.cells.toList.map .v)))))
   | false=>C.bad 18
  | _,_,_,_,_=>C.bad 19
 | none=>C.bad 20
def AG8 (σ:Nat->Option bE) (src dst:TypeId) (d:D) (K:D->Prop):Prop :=
 match d with
 | .own k=>match σ k,P.underlying src,P.underlying dst with
  | some (.arr _ z rows),some (.slice e),some .string=>match P.underlying e,decide (z=1) with
   | some (.int .u8),true=>C.dec (.int .u8) rows λxs=>C.yJ (decide (0<rows.length)) (K (.p (.v (.string (strOfNums xs)))))
   | _,_=>C.bad 21
  | _,_,_=>C.bad 22
 | d=>rL C 83 (NB P src dst d) K
def U4 (src dst:TypeId) (d:D) (K:D->Prop):Prop :=
 match d,P.underlying src,P.underlying dst with
 | .p (.v (.string s)),some .string,some (.slice e)=>match P.underlying e with
  | some (.int .u8)=>C.yJ (decide (s.size<=140737488355328)) (K (.p (.sl false (vA s))))
  | _=>C.bad 84
 | d,_,_=>rL C 82 (I6 P src dst d) K
def AG9 (src dst:TypeId) (d:D) (K:D->Prop):Prop :=
 match d,P.underlying src,P.underlying dst with
 | .p (.sl fl rows),some (.slice e),some .string=>match P.underlying e with
  | some (.int .u8)=>C.dec (.int .u8) rows λxs=>K (.p (.v (.string (strOfNums xs))))
  | _=>C.bad 85
 | d,_,_=>U4 C P src dst d K
def qvS (n:Nat) (σ:Nat->Option bE) (s₀ s:Nat->D) (op:Op) (K:D->Prop):Prop :=
 match op with
 | .indexAddr t x i=>BHX C P σ t (ev s x) (ev s i) K
 | .makeSlice t l c=>AIW C P t (ev s l) (ev s c) K
 | .load t a=>A3T C P σ t (ev s a) K
 | .binOp op t x y _=>match Env.marked E 8000000000 with
  | true=>AJ6 C P op t (ev s x) (ev s y) K
  | false=>A9U C P op t (ev s x) (ev s y) K
 | .slice t x lo hi mx=>AJ8 C P σ t (ev s x) (lo.map (ev s)) (hi.map (ev s)) (mx.map (ev s)) K
 | .index t x i=>AZM C P t (ev s x) (ev s i) K
 | .lookup t x i ok=>A3V C P σ t (ev s x) (ev s i) ok K
 | .convert src dst x=>match E.marked (6000000000+src) with
  | true=>AG8 C P σ src dst (ev s x) K
  | false=>match Env.marked E 8000000000 with
   | true=>AG9 C P src dst (ev s x) K
   | false=>U4 C P src dst (ev s x) K
 | .call c=>match c.callee with
  | .value f=>AZO C P E σ n (ev s f) (c.args.toList.map (ev s)) K
  | _=>rL C 81 (qv P E n σ s₀ s true op) K
 | op=>rL C 82 (qv P E n σ s₀ s true op) K
end
section
variable {P : Program} {E : Env}
variable {K:D->Prop}
def dV {c:Nat} {x:Option D} (h:rL nN c x K):∃ d,x=some d/\K d:=by
 unfold rL at h;split at h
 ·exact ⟨_,rfl,h⟩
 ·exact h.elim
def ASL (l:List T):S3 (l.map .p) = .p (.agg l):=by unfold S3;rw[ZS]
def BF {j:Int} {K:Int->Prop}:∀ {n i:Nat},EU nN j K n i->∃ q,j=q/\K q
 | 0,_,h=>h.elim
 | n+1,i,h=>by
  unfold EU at h;cases hd:decide (j=Int.ofNat i) with
  | true=>rw[hd] at h;exact ⟨_,of_decide_eq_true hd,h⟩
  | false=>rw[hd] at h;exact BF (n:=n) (i:=i+1) h
variable {σ:Nat->Option bE}
def ARX {t:TypeId} {d i:D} (h:BHX nN P σ t d i K):∃ r,dH P σ t d i=some r/\K r:=by
 unfold BHX at h;split at h
 ·rename_i kk j e he;split at h
  ·rename_i z r hz hr;split at h
   ·exact dV h
   split at h
   ·rename_i tt hw;have hw:r.w=z:=by simpa using hw
    split at h
    ·rename_i f rows hrows;obtain ⟨y,h0,h1,h2⟩:=h;refine ⟨_,?_,h2⟩;unfold dH;have:¬ j<0:=by omega
     simp only[this,if_false,he,hz,hrows,h1,Sy.cP,hw,if_true]
    ·exact h.elim
   ·rename_i k hw;have hw:r.w=z:=by simpa using hw
    split at h
    ·rename_i ro zz rows hσ;obtain ⟨y,h0,h1,h2⟩:=h;refine ⟨_,?_,h2⟩;unfold dH;have:¬ j<0:=by omega
     have hR:(σ k).bind eN=some (aZ rows):=by rw[hσ];rfl
     simp only[this,if_false,he,hz,hR,pRows_get?,h1,Option.map_some,ae,Sy.cP,hw,if_true]
    ·exact dV h
   ·rename_i k off len hw;have hw:r.w=z:=by simpa using hw
    split at h
    ·rename_i ro zz rows hσ;obtain ⟨hb,y,h0,h1,h2⟩:=h;simp only[ac,ah] at hb;refine ⟨_,?_,h2⟩;unfold dH;have:¬ j<0:=by omega
     have hR:(σ k).bind eN=some (aZ rows):=by rw[hσ];rfl
     simp only[Int.toNat_natCast] at h1;simp only[this,if_false,he,hz,hb.2,if_true,hR,pRows_get?,h1,Option.map_some,ae,Sy.cP,hw,if_true]
    ·exact dV h
   ·exact h.elim
  ·exact h.elim
 ·split at h
  ·split at h
   ·obtain ⟨_,rfl,h⟩:=BF h;exact dV h
   ·exact dV h
  ·exact dV h
 ·exact dV h
def AIT {t:TypeId} {d:D} (h:A3T nN P σ t d K):∃ r,uM P σ t d=some r/\K r:=by
 unfold A3T at h;split at h
 ·rename_i k i o;split at h
  ·rename_i ro zz rows hσ;split at h
   ·rename_i r ag n hr hag hn;split at h
    ·rename_i hw;simp only[ac,beq_iff_eq,Bool.or_eq_true] at hw;obtain ⟨row,y,h1,h2,h3,h4⟩:=h;refine ⟨_,?_,h4⟩;have hR:(σ k).bind eN=some (aZ rows):=by rw[hσ];rfl
     unfold uM;simp only[hag,hn,hR,pRows_get?,h1,Option.map_some];cases ag with
     | true =>
      have:o+n<=(row.map D.p).length:=by simp;omega
      simp only[if_true,this];rw[<-List.map_drop,<-List.map_take,<-hw.1,h3,ASL];rfl
     | false =>
      have hn1:n=1:=by simpa using hw.2
      have hw1:r.w=1:=by omega
      have hl:(r.enc y).length=1:=by rw[Sy.cP];exact hw1
      obtain ⟨x,hx⟩:=List.length_eq_one_iff.1 hl;have:row[o]? = some x:=by
       have h5:((row.drop o).take r.w)[0]? = some x:=by rw[h3,hx];rfl
       rw[hw1] at h5;simpa [List.getElem?_take,List.getElem?_drop] using h5
      simp only[Bool.false_eq_true,if_false,List.getElem?_map,this,Option.map_some,aF,hx,hdT]
    ·exact h.elim
   ·exact h.elim
  ·exact dV h
 ·exact dV h
variable {y:D}
def RM {op:BinOp} {t:TypeId} {x:D} (h:A9U nN P op t x y K):∃ r,JX P op t x y=some r/\K r:=by
 unfold A9U at h;split at h
 ·split at h
  ·rename_i k a k' b;split at h
   ·rename_i hk;have hk:=of_decide_eq_true hk;subst hk;obtain ⟨hb,h⟩:=h;have hb:¬ b=0:=by simpa using hb
    exact ⟨_,by simp[JX,AY,QR,Z1,V2,hb],h⟩
   ·exact h.elim
  ·exact h.elim
 ·split at h
  ·rename_i k a k' b;split at h
   ·rename_i hk;have hk:=of_decide_eq_true hk;subst hk;obtain ⟨hb,h⟩:=h;have hb:¬ b=0:=by simpa using hb
    exact ⟨_,by simp[JX,AY,QR,Z1,V2,hb],h⟩
   ·exact h.elim
  ·exact h.elim
 ·split at h
  ·rename_i a b;obtain ⟨hb,h⟩:=h;have hb:((a.size+b.size:Nat):Int)<=9223372036854775807:=of_decide_eq_true hb;exact ⟨_,by simp only[JX,AY,QR,Z1,AK4,if_pos hb,Option.map_some],h⟩
  ·exact dV h
 ·exact dV h
def AD3 {op:BinOp} {t:TypeId} {x:D} (h:AJ6 nN P op t x y K):∃ r,JX P op t x y=some r/\K r:=by
 unfold AJ6 at h;split at h
 ·split at h
  ·rename_i k a k' b;obtain ⟨hb,h⟩:=h;rw[ac,ah,ah] at hb;exact ⟨_,by simp[JX,AY,QR,Z1,hb],h⟩
  ·exact h.elim
 ·split at h
  ·rename_i k a k' b;obtain ⟨hb,h⟩:=h;rw[ac,ah,ah] at hb;exact ⟨_,by simp[JX,AY,QR,Z1,hb],h⟩
  ·exact h.elim
 ·exact RM h
def iF {d:Option D} {dflt m hi:Nat} {b:Bool} (h:QS d dflt=some (m,b)) (hb:(b&&decide (m<=hi))=true):pK d dflt hi=some m:=by
 simp only[ac,ah] at hb;unfold QS at h;split at h
 ·cases h;simp[pK,hb.2]
 ·rename_i k i;cases h;have h0:0<=i:=of_decide_eq_true hb.1;have h1:i<=hi:=by have:=hb.2;omega
  simp[pK,h0,h1]
 ·cases h
def AD5 {t:TypeId} {d:D} {lo hi mx:Option D} (h:AJ8 nN P σ t d lo hi mx K):∃ r,lG P σ t d lo hi mx=some r/\K r:=by
 unfold AJ8 at h;split at h
 ·exact dV h
 ·split at h
  ·rename_i e he;split at h
   ·rename_i z hz;split at h
    ·rename_i tt;split at h
     ·rename_i full rows hrows;split at h
      ·rename_i hN bh lN bl h1 h2;obtain ⟨hb,h⟩:=h;rw[ac,ac] at hb;refine ⟨_,?_,h⟩;unfold lG;simp only[he,hz,hrows,hb.1.1,if_true,iF h1 hb.1.2,iF h2 hb.2]
      ·exact h.elim
     ·exact h.elim
    ·rename_i k;split at h
     ·rename_i ro zz rows hσ;split at h
      ·rename_i hN bh lN bl h1 h2;obtain ⟨hb,h⟩:=h;rw[ac] at hb;have hR:(σ k).bind eN=some (aZ rows):=by rw[hσ];rfl
       rw[rB] at h;by_cases heq:hN=lN
       ·refine ⟨_,?_,h.1 (by simpa using heq)⟩;unfold lG;simp only[he,hz,hR,bT,iF h1 hb.1,iF h2 hb.2];rw[if_pos heq]
       ·obtain ⟨hw,hk⟩:=h.2 (by simpa using heq);refine ⟨_,?_,hk⟩;unfold lG;simp only[he,hz,hR,bT,iF h1 hb.1,iF h2 hb.2];rw[if_neg heq,if_pos hw]
      ·exact h.elim
     ·exact dV h
    ·rename_i k off len;split at h
     ·rename_i hN bh lN bl h1 h2;obtain ⟨hb,h⟩:=h;rw[ac] at hb;rw[rB] at h;by_cases heq:hN=lN
      ·refine ⟨_,?_,h.1 (by simpa using heq)⟩;unfold lG;simp only[he,hz,iF h1 hb.1,iF h2 hb.2];rw[if_pos heq]
      ·obtain ⟨hw,hk⟩:=h.2 (by simpa using heq);refine ⟨_,?_,hk⟩;unfold lG;simp only[he,hz,iF h1 hb.1,iF h2 hb.2];rw[if_neg heq,if_pos hw]
     ·exact h.elim
    ·exact h.elim
   ·exact h.elim
  ·rename_i he;split at h
   ·rename_i s hu;split at h
    ·rename_i hN bh lN bl h1 h2;obtain ⟨hb,h⟩:=h;rw[ac] at hb;refine ⟨_,?_,h⟩;unfold lG;simp only[he,hu,iF h1 hb.1,iF h2 hb.2]
    ·exact h.elim
   ·exact dV h
def AG1 {t:TypeId} {d i:D} (h:AZM nN P t d i K):∃ r,HJ P t d i=some r/\K r:=by
 unfold AZM at h;split at h
 ·rename_i kk j s hu;obtain ⟨b,h0,h1,h2⟩:=h;refine ⟨_,?_,h2⟩;unfold HJ;have:¬ j<0:=by omega
  simp only[this,if_false,hu,h1,Option.map_some]
 ·exact dV h
def AIV {t:TypeId} {x i:D} {ok:Bool} (h:A3V nN P σ t x i ok K):∃ r,wE P σ t x i ok=some r/\K r:=by
 unfold A3V at h;split at h
 ·rename_i kt et hu;split at h
  ·rename_i kd k z hk hz;split at h
   ·rename_i m hkey;split at h
    ·rename_i ro es hσ;split at h
     ·rename_i ag r hag hr;rcases h with ⟨h1,h2⟩|⟨i,y,h1,h2⟩
      ·refine ⟨_,?_,h2⟩;unfold wE;simp only[hu,hk,hz,hkey,hσ,h1];cases ok<;>rfl
      ·refine ⟨_,?_,h2⟩;unfold wE;simp only[hu,hk,hz,hkey,hσ,h1];cases ok<;>rfl
     ·exact h.elim
    ·exact h.elim
   ·rename_i es hkey;split at h
    ·rename_i ag r hag hr;rcases h with ⟨h1,h2⟩|⟨i,y,h1,h2⟩
     ·refine ⟨_,?_,h2⟩;unfold wE;simp only[hu,hk,hz,hkey,h1];cases ok<;>rfl
     ·refine ⟨_,?_,h2⟩;unfold wE;simp only[hu,hk,hz,hkey,h1];cases ok<;>rfl
    ·exact h.elim
   ·exact dV h
  ·exact h.elim
 ·exact h.elim
def vC:∀ (r:Sy),xG r=true->∀ (x:r.den) (n:Nat),(r.enc x).all (T.r5 n)=true
 | .int _,_,x,n=>by cases n<;>simp[Sy.enc,T.r5]
 | .bool,_,x,n=>by cases n<;>simp[Sy.enc,T.r5]
 | .str,_,x,n=>by cases n<;>simp[Sy.enc,T.r5]
 | .pr a b,h,x,n=>by
  simp only[xG,ac] at h;simp only[Sy.enc,List.all_append,ac];exact ⟨vC a h.1 x.1 n,vC b h.2 x.2 n⟩
def G2 {ag:Bool} {r:Sy} (h:xG r=true) (x:r.den) (n:Nat):T.r5 (n+1) (aF ag r x)=true:=by
 have:=vC r h x (n+1);cases ag with
 | true=>exact vC r h x n
 | false =>
  simp only[aF];cases he:r.enc x with
  | nil=>rfl
  | cons a l=>rw[he] at this;simp only[List.all_cons,ac] at this;exact this.1
def R0:∀ (s:Sh),s.all (λx=>xG x.2)=true->∀ (y:Sh.den s) (n:Nat),(Sh.l6 s y).all (T.r5 (n+1))=true
 | [],_,_,_=>rfl
 | [a],h,y,n=>by
  simp only[List.all_cons,List.all_nil,Bool.and_true] at h;simp only[Sh.l6,List.all_cons,List.all_nil,Bool.and_true];exact G2 h y n
 | a::b::l,h,y,n=>by
  rw[List.all_cons,ac] at h;simp only[Sh.l6,List.all_cons,ac] at *;have:=R0 (b::l) (by rw[List.all_cons,ac];exact h.2) y.2 n;exact ⟨G2 h.1 y.1 n,this⟩
def BAE {s:Sh} (h:s.all (λx=>xG x.2)=true) (y:Sh.den s):(Sh.enc s y).flat=true:=by
 unfold T.flat
 match s,h,y with
 | [],h,y=>rfl
 | [a],h,y =>
  simp only[List.all_cons,List.all_nil,Bool.and_true] at h;exact G2 h y 2
 | a::b::l,h,y=>exact R0 (a::b::l) h y 1
def AG3 {n:Nat} {f:D} {args:List D} (h:AZO nN P E σ n f args K):∃ r,qS E σ n f args=some r/\K r:=by
 unfold AZO at h;split at h
 ·rename_i fid a b hc;split at h
  ·rename_i g s hE hs;split at h
   ·rename_i ts hts;obtain ⟨y,h1,h2⟩:=h;refine ⟨_,?_,h2⟩;unfold qS;simp only[hc,hE,hts,h1,Option.map_some]
   ·rename_i hts;split at h
    ·rename_i ts hm hfl;obtain ⟨y,h1,h2⟩:=h;refine ⟨_,?_,h2⟩;unfold qS;simp only[hc,hE,hts,hm,h1,BAE hfl y,if_true]
    ·exact h.elim
  ·rename_i g s hE hs;obtain ⟨y,h1,h2⟩:=h;refine ⟨_,?_,h2⟩;unfold qS;simp only[hc,hE,h1,Option.map_some]
  ·rename_i g s hE hs;split at h
   ·rename_i ts hts;obtain ⟨y,h1,h2⟩:=h;refine ⟨_,?_,h2⟩;unfold qS;simp only[hc,hE,hts,h1,Option.map_some]
   ·exact h.elim
  ·rename_i g s hE hs;split at h
   ·rename_i ts hts;obtain ⟨y,h1,h2⟩:=h;refine ⟨_,?_,h2⟩;unfold qS;simp only[hc,hE,hts,h1,Option.map_some]
   ·exact h.elim
  ·rename_i g s hE hs;split at h
   ·rename_i ts hts;obtain ⟨y,h1,h2⟩:=h;refine ⟨_,?_,h2⟩;unfold qS;simp only[hc,hE,hts,h1,Option.map_some]
   ·exact h.elim
  ·exact h.elim
 ·exact h.elim
def ACZ {t:TypeId} {a b:D} (h:AIW nN P t a b K):∃ d,ACY P t a b=some d/\K d:=by
 unfold AIW at h;split at h
 ·rename_i e he;split at h
  ·rename_i z by_ zv k1 x k2 y hz hby hzv;split at h
   ·rename_i hc;obtain ⟨hb,hk⟩:=h;refine ⟨_,?_,hk⟩;simp only[ACY,he,hz,hby,hzv,hc,hb,Bool.and_self]
   ·exact h.elim
  ·exact h.elim
 ·exact h.elim
def B3:∀ {rows:List (List T)} {xs:List Int},kO rows=xs.map (Sy.int .u8).enc->B2 rows=some xs
 | [],[],_=>rfl
 | [],_::_,h=>by cases h
 | _::_,[],h=>by cases h
 | r::rows,n::xs,h=>by
  unfold kO at h;rw[List.map_cons,List.map_cons] at h;obtain ⟨h1,h2⟩:=List.cons.inj h;have ih:=B3 (rows:=rows) (xs:=xs) h2
  match r,h1 with
  | [],h1=>cases h1
  | [t],h1 =>
   have h3:T.canon 0 t = .v (.int .u8 n):=(List.cons.inj h1).1;have e:t = .v (.int .u8 n):=by
    cases t with
    | v v =>
     unfold T.canon at h3;split at h3<;>first|exact h3|cases h3
    | _=>simp[T.canon] at h3
   subst e;simp only[B2,ih,Option.map_some]
  | _::_::_,h1=>cases (List.cons.inj h1).2
variable {src dst:TypeId}
def AAB {d:D} (h:AG8 nN P σ src dst d K):∃ r,RP P σ src dst d=some r/\K r:=by
 unfold AG8 at h;split at h
 ·split at h
  ·rename_i hσ hs hd;split at h
   ·rename_i he hz;obtain ⟨xs,hx,hb,hk⟩:=h;refine ⟨_,?_,hk⟩;simp only[RP,hσ,hs,hd,he,B3 hx];rw[if_pos ⟨of_decide_eq_true hz,of_decide_eq_true hb⟩]
   ·exact h.elim
  ·exact h.elim
 ·rename_i hn;obtain ⟨r,h1,h2⟩:=dV h;refine ⟨r,?_,h2⟩;unfold RP;split
  ·exact absurd rfl (hn _)
  ·exact h1
def I7 {d:D} (h:U4 nN P src dst d K):∃ r,I6 P src dst d=some r/\K r:=by
 unfold U4 at h;split at h
 ·rename_i s e hs hd;split at h
  ·rename_i he;obtain ⟨hb,hk⟩:=h;refine ⟨_,?_,hk⟩;simp only[I6,NB,ALQ,hs,hd,he,hb]
  ·exact h.elim
 ·exact dV h
def AAC {d:D} (h:AG9 nN P src dst d K):∃ r,I6 P src dst d=some r/\K r:=by
 unfold AG9 at h;split at h
 ·rename_i fl rows e hs hd;split at h
  ·rename_i he;obtain ⟨xs,hx,hk⟩:=h;refine ⟨_,?_,hk⟩;simp only[I6,NB,fK,hs,hd,he,B3 hx]
  ·exact h.elim
 ·exact I7 h
def A49 {n:Nat} {s₀ s:Nat->D} {op:Op} (h:qvS nN P E n σ s₀ s op K):∃ d,qv P E n σ s₀ s true op=some d/\K d:=by
 unfold qvS at h;split at h
 ·exact ARX h
 ·exact ACZ h
 ·exact AIT h
 ·split at h
  ·exact AD3 h
  ·exact RM h
 ·exact AD5 h
 ·exact AG1 h
 ·exact AIV h
 ·rename_i src dst x;split at h
  ·rename_i hm;obtain ⟨d,h1,h2⟩:=AAB h;refine ⟨d,?_,h2⟩;simp only[qv,hm];exact h1
  ·rename_i hm;have h:∃ r,I6 P src dst (ev s x)=some r/\K r:=by
    split at h
    ·exact AAC h
    ·exact I7 h
   obtain ⟨d,h1,h2⟩:=h;refine ⟨d,?_,h2⟩;simp only[qv,hm];exact h1
 ·rename_i c;split at h
  ·rename_i f hf;obtain ⟨d,h1,h2⟩:=AG3 h;refine ⟨d,?_,h2⟩;simp only[qv,hf];exact h1
  ·exact dV h
 ·exact dV h
end
end Go.Pv
