/-
  The symbolic executor, part b: operations.
-/
import Derived.Test.YtipdohmdckdoeaaGreatDoorVeka
set_option linter.defProp false
set_option linter.unusedSimpArgs false
namespace Go.Pv
open Go Go.RowKit
section
variable (C : Combs) (P : Program) (E : Env)
def q9 (c:Nat) (x:Option D) (K:D->Prop):Prop:=match x with
 | some d=>K d
 | none=>C.bad c
def Sy.isAny:Sy->Bool
 | .any=>true
 | _=>false
def DQ (j:Int) (K:Int->Prop):Nat->Nat->Prop
 | 0,_=>C.bad 18
 | n+1,i=>aC (decide (j=Int.ofNat i)) (K (Int.ofNat i)) (DQ j K n (i+1))
def BC1 (σ:Nat->Option bH) (t:TypeId) (d i:D) (K:D->Prop):Prop :=
 match i,l6 P t with
 | .p (.v (.int _ j)),some e =>
  match tsz? P e,AC5 P e with
  | some z,some r =>
   match r.isAny with
   | true=>q9 C 17 (cX P σ t d i) K
   | false =>
   match r.w == z,d with
   | true,.p tt=>match eZ tt with
    | some (_,rows)=>C.rows r rows j λy=>K (.p (.ref (r.enc y)))
    | none=>C.bad 11
   | true,.own k=>match σ k with
    | some (.arr _ _ rows)=>C.rows r rows j λ_=>K (.ptr k j.toNat 0)
    | _=>q9 C 12 (cX P σ t d i) K
   | true,.bs k off len=>match σ k with
    | some (.arr _ _ rows)=>C.zM (decide (0<=j)&&decide (j.toNat<len)) (C.rows r rows (off+j.toNat:Nat) λ_=>K (.ptr k (off+j.toNat) 0))
    | _=>q9 C 13 (cX P σ t d i) K
   | _,_=>C.bad 14
  | _,_=>C.bad 15
 | .p (.v (.int kk j)),none=>match Y7 P t with
  | some (m,_)=>match decide (m<=8) with
   | true=>DQ C j (λj=>q9 C 19 (cX P σ t d (.p (.v (.int kk j)))) K) m 0
   | false=>q9 C 16 (cX P σ t d i) K
  | none=>q9 C 16 (cX P σ t d i) K
 | _,_=>q9 C 16 (cX P σ t d i) K
def AZ9 (σ:Nat->Option bH) (t:TypeId) (d:D) (K:D->Prop):Prop :=
 match d with
 | .ptr k i o=>match σ k with
  | some (.arr _ _ rows)=>match AC5 P t,AP P t,tsz? P t with
   | some r,some ag,some n=>match r.w == n&&(ag||n == 1) with
    | true=>C.part r rows i o λy=>K (.p (aG ag r y))
    | false=>C.bad 21
   | _,_,_=>C.bad 22
  | _=>q9 C 23 (tY P σ t d) K
 | _=>q9 C 24 (tY P σ t d) K
def A5Q (op:BinOp) (t:TypeId) (x y:D) (K:D->Prop):Prop :=
 match op with
 | .quo=>match x,y with
  | .p (.v (.int k a)),.p (.v (.int k' b))=>match decide (k=k') with
   | true=>C.zM (!decide (b=0)) (K (.p (.v (.int k (k.wrap (a.tdiv b))))))
   | false=>C.bad 31
  | _,_=>C.bad 32
 | .rem=>match x,y with
  | .p (.v (.int k a)),.p (.v (.int k' b))=>match decide (k=k') with
   | true=>C.zM (!decide (b=0)) (K (.p (.v (.int k (a.tmod b)))))
   | false=>C.bad 33
  | _,_=>C.bad 34
 | .add=>match x,y with
  | .p (.v (.string a)),.p (.v (.string b))=>C.zM (decide (((a.size+b.size:Nat):Int)<=9223372036854775807)) (K (.p (.v (.string (a++b)))))
  | _,_=>q9 C 35 (JI P .add t x y) K
 | op=>q9 C 36 (JI P op t x y) K
def AIO (op:BinOp) (t:TypeId) (x y:D) (K:D->Prop):Prop :=
 match op with
 | .shl=>match x,y with
  | .p (.v (.int k a)),.p (.v (.int _ b))=>C.zM (decide (0<=b)&&decide (b<=k.bits)) (K (.p (.v (.int k (k.wrap (a*2 ^ b.toNat))))))
  | _,_=>C.bad 37
 | .shr=>match x,y with
  | .p (.v (.int k a)),.p (.v (.int _ b))=>C.zM (decide (0<=b)&&decide (b<=k.bits)) (K (.p (.v (.int k (a / 2 ^ b.toNat)))))
  | _,_=>C.bad 38
 | op=>A5Q C P op t x y K
def QD (d:Option D) (dflt:Nat):Option (Nat×Bool):=match d with
 | none=>some (dflt,true)
 | some (.p (.v (.int _ i)))=>some (i.toNat,decide (0<=i))
 | _=>none
def AIQ (σ:Nat->Option bH) (t:TypeId) (d:D) (lo hi mx:Option D) (K:D->Prop):Prop :=
 match mx with
 | some _=>q9 C 41 (kT P σ t d lo hi mx) K
 | none=>match l6 P t with
  | some e=>match tsz? P e with
   | some z=>match d with
    | .p tt=>match eZ tt with
     | some (full,rows)=>match QD hi rows.length,QD lo 0 with
      | some (h,bh),some (l,bl)=>C.zM (mY z rows&&(bh&&decide (h<=rows.length))&&(bl&&decide (l<=h))) (K (.p (.sl (full&&decide (h=rows.length)) ((rows.take h).drop l))))
      | _,_=>C.bad 42
     | none=>C.bad 43
    | .own k=>match σ k with
     | some (.arr _ _ rows)=>match QD hi rows.length,QD lo 0 with
      | some (h,bh),some (l,bl)=>C.zM ((bh&&decide (h<=rows.length))&&(bl&&decide (l<=h))) (aC (decide (h=l)) (K (.p (.sl false []))) (C.zM (kH σ k z) (K (.bs k l (h-l)))))
      | _,_=>C.bad 44
     | _=>q9 C 45 (kT P σ t d lo hi mx) K
    | .bs k off len=>match QD hi len,QD lo 0 with
     | some (h,bh),some (l,bl)=>C.zM ((bh&&decide (h<=len))&&(bl&&decide (l<=h))) (aC (decide (h=l)) (K (.p (.sl false []))) (C.zM (kH σ k z) (K (.bs k (off+l) (h-l)))))
     | _,_=>C.bad 46
    | _=>C.bad 47
   | none=>C.bad 48
  | none=>match P.underlying t,d with
   | some .string,.p (.v (.string s))=>match QD hi s.size,QD lo 0 with
    | some (h,bh),some (l,bl)=>C.zM ((bh&&decide (h<=s.size))&&(bl&&decide (l<=h))) (K (.p (.v (.string (s.extract l h)))))
    | _,_=>C.bad 49
   | _,_=>q9 C 50 (kT P σ t d lo hi mx) K
def AWR (t:TypeId) (d i:D) (K:D->Prop):Prop :=
 match i,d,P.underlying t with
 | .p (.v (.int _ j)),.p (.v (.string s)),some .string=>C.byte s j λb=>K (.p (.v (.int .u8 b)))
 | _,_,_=>q9 C 51 (GR P t d i) K
def A0B (σ:Nat->Option bH) (t:TypeId) (x i:D) (ok:Bool) (K:D->Prop):Prop :=
 match P.underlying t with
 | some (.map kt et) =>
  match vC P kt,i,tz? P et with
  | some kd,.p (.v k),some z =>
   match CB kd k,x with
   | true,.map m =>
    match σ m with
    | some (.map _ es)=>match AP P et,AC5 P et with
     | some ag,some r=>C.find kd k es ag r (K (match ok with|true=>JQ (.p (.v z)) (.v (.bool false))|false=>.p (.v z)))
       λ_ y=>K (match ok with|true=>.p (.b7 [aG ag r y,.v (.bool true)])|false=>.p (aG ag r y))
     | _,_=>C.bad 61
    | _=>C.bad 62
   | true,.p (.mp es)=>match AP P et,AC5 P et with
    | some ag,some r=>C.find kd k (qZ es) ag r (K (match ok with|true=>JQ (.p (.v z)) (.v (.bool false))|false=>.p (.v z)))
      λ_ y=>K (match ok with|true=>.p (.b7 [aG ag r y,.v (.bool true)])|false=>.p (aG ag r y))
    | _,_=>C.bad 66
   | _,_=>q9 C 63 (v7 P σ t x i ok) K
  | _,_,_=>C.bad 64
 | _=>C.bad 65
def w7:Sy->Bool
 | .int _=>true
 | .bool=>true
 | .str=>true
 | .pr a b=>w7 a&&w7 b
 | _=>false
def A16 (fid:FuncId):Option Sh:=match P.funcs[fid]? with
 | some fn=>shL P fn.resultTypes.toList
 | none=>none
def AWT (σ:Nat->Option bH) (n:Nat) (f:D) (args:List D) (K:D->Prop):Prop :=
 match jQ f with
 | some (fid,a,b)=>match E fid,A16 P fid with
  | some (.pure g),some s=>match nH (a++args++b) with
   | some ts=>C.call s (g ts) λy=>K (.p (Sh.enc s y))
   | none=>match (a++args++b).mapM (iO σ 4),s.all (λx=>w7 x.2) with
    | some ts,true=>C.call s (g ts) λy=>K (.p (Sh.enc s y))
    | _,_=>C.bad 71
  | some (.read g),some s=>C.call s (g (a++args++b) σ n) λy=>K (.p (Sh.enc s y))
  | some (.new g),some s=>match (a++args++b).mapM (iO σ 4) with
   | some ts=>C.call s (g ts) λy=>K (.p (Sh.enc s y))
   | none=>C.bad 74
  | some (.AOJ g),some _=>match (a++args++b).mapM (iO σ 4) with
   | some ts=>C.opt (List (iII×Int)) (g ts) λes=>K (.p (.mp (bO es)))
   | none=>C.bad 75
  | some (.ext g),some s=>match nH (a++args++b) with
   | some ts=>C.call s (g ts) λy=>K (.p (Sh.enc s y))
   | none=>C.bad 76
  | _,_=>C.bad 72
 | none=>C.bad 73
def AHE (t:TypeId) (len cap:D) (K:D->Prop):Prop :=
 match l6 P t with
 | some e =>
  match tsz? P e,tby? P e,tz? P e,len,cap with
  | some z,some by_,some zv,.p (.v (.int _ a)),.p (.v (.int _ b)) =>
   match decide (0<z)&&zv.cells.size == z&&zv.cells.all Value.oneCell' with
   | true=>C.zM (decide (a=b)&&decide (0<=b)&&decide (b*by_<=140737488355328)&&decide (b<=140737488355328)) (K (.p (.sl false (List.replicate a.toNat (zv.cells.toList.map .v)))))
   | false=>C.bad 18
  | _,_,_,_,_=>C.bad 19
 | none=>C.bad 20
def AFY (σ:Nat->Option bH) (src dst:TypeId) (d:D) (K:D->Prop):Prop :=
 match d with
 | .own k=>match σ k,P.underlying src,P.underlying dst with
  | some (.arr _ z rows),some (.slice e),some .string=>match P.underlying e,decide (z=1) with
   | some (.int .u8),true=>C.dec (.int .u8) rows λxs=>C.zM (decide (0<rows.length)) (K (.p (.v (.string (strOfNums xs)))))
   | _,_=>C.bad 21
  | _,_,_=>C.bad 22
 | d=>q9 C 83 (MJ P src dst d) K
def UW (src dst:TypeId) (d:D) (K:D->Prop):Prop :=
 match d,P.underlying src,P.underlying dst with
 | .p (.v (.string s)),some .string,some (.slice e)=>match P.underlying e with
  | some (.int .u8)=>C.zM (decide (s.size<=140737488355328)) (K (.p (.sl false (uS s))))
  | _=>C.bad 84
 | d,_,_=>q9 C 82 (IJ P src dst d) K
def AFZ (src dst:TypeId) (d:D) (K:D->Prop):Prop :=
 match d,P.underlying src,P.underlying dst with
 | .p (.sl fl rows),some (.slice e),some .string=>match P.underlying e with
  | some (.int .u8)=>C.dec (.int .u8) rows λxs=>K (.p (.v (.string (strOfNums xs))))
  | _=>C.bad 85
 | d,_,_=>UW C P src dst d K
def qvS (n:Nat) (σ:Nat->Option bH) (s₀ s:Nat->D) (op:Op) (K:D->Prop):Prop :=
 match op with
 | .indexAddr t x i=>BC1 C P σ t (ev s x) (ev s i) K
 | .makeSlice t l c=>AHE C P t (ev s l) (ev s c) K
 | .load t a=>AZ9 C P σ t (ev s a) K
 | .binOp op t x y _=>match Env.marked E 8000000000 with
  | true=>AIO C P op t (ev s x) (ev s y) K
  | false=>A5Q C P op t (ev s x) (ev s y) K
 | .slice t x lo hi mx=>AIQ C P σ t (ev s x) (lo.map (ev s)) (hi.map (ev s)) (mx.map (ev s)) K
 | .index t x i=>AWR C P t (ev s x) (ev s i) K
 | .lookup t x i ok=>A0B C P σ t (ev s x) (ev s i) ok K
 | .convert src dst x=>match E.marked (6000000000+src) with
  | true=>AFY C P σ src dst (ev s x) K
  | false=>match Env.marked E 8000000000 with
   | true=>AFZ C P src dst (ev s x) K
   | false=>UW C P src dst (ev s x) K
 | .call c=>match c.callee with
  | .value f=>AWT C P E σ n (ev s f) (c.args.toList.map (ev s)) K
  | _=>q9 C 81 (qv P E n σ s₀ s true op) K
 | op=>q9 C 82 (qv P E n σ s₀ s true op) K
end
section
variable {P : Program} {E : Env}
variable {K:D->Prop}
def dG {c:Nat} {x:Option D} (h:q9 oC c x K):∃ d,x=some d/\K d:=by
 unfold q9 at h;split at h
 ·exact ⟨_,rfl,h⟩
 ·exact h.elim
def AQE (l:List T):SP (l.map .p) = .p (.agg l):=by unfold SP;rw[Y0]
def A0 {j:Int} {K:Int->Prop}:∀ {n i:Nat},DQ oC j K n i->∃ q,j=q/\K q
 | 0,_,h=>h.elim
 | n+1,i,h=>by
  unfold DQ at h;cases hd:decide (j=Int.ofNat i) with
  | true=>rw[hd] at h;exact ⟨_,of_decide_eq_true hd,h⟩
  | false=>rw[hd] at h;exact A0 (n:=n) (i:=i+1) h
variable {σ:Nat->Option bH}
def APP {t:TypeId} {d i:D} (h:BC1 oC P σ t d i K):∃ r,cX P σ t d i=some r/\K r:=by
 unfold BC1 at h;split at h
 ·rename_i kk j e he;split at h
  ·rename_i z r hz hr;split at h
   ·exact dG h
   split at h
   ·rename_i tt hw;have hw:r.w=z:=by simpa using hw
    split at h
    ·rename_i f rows hrows;obtain ⟨y,h0,h1,h2⟩:=h;refine ⟨_,?_,h2⟩;unfold cX;have:¬ j<0:=by omega
     simp only[this,if_false,he,hz,hrows,h1,Sy.cW,hw,if_true]
    ·exact h.elim
   ·rename_i k hw;have hw:r.w=z:=by simpa using hw
    split at h
    ·rename_i ro zz rows hσ;obtain ⟨y,h0,h1,h2⟩:=h;refine ⟨_,?_,h2⟩;unfold cX;have:¬ j<0:=by omega
     have hR:(σ k).bind dS=some (a6 rows):=by rw[hσ];rfl
     simp only[this,if_false,he,hz,hR,pRows_get?,h1,Option.map_some,ae,Sy.cW,hw,if_true]
    ·exact dG h
   ·rename_i k off len hw;have hw:r.w=z:=by simpa using hw
    split at h
    ·rename_i ro zz rows hσ;obtain ⟨hb,y,h0,h1,h2⟩:=h;simp only[ac,ah] at hb;refine ⟨_,?_,h2⟩;unfold cX;have:¬ j<0:=by omega
     have hR:(σ k).bind dS=some (a6 rows):=by rw[hσ];rfl
     simp only[Int.toNat_natCast] at h1;simp only[this,if_false,he,hz,hb.2,if_true,hR,pRows_get?,h1,Option.map_some,ae,Sy.cW,hw,if_true]
    ·exact dG h
   ·exact h.elim
  ·exact h.elim
 ·split at h
  ·split at h
   ·obtain ⟨_,rfl,h⟩:=A0 h;exact dG h
   ·exact dG h
  ·exact dG h
 ·exact dG h
def AHB {t:TypeId} {d:D} (h:AZ9 oC P σ t d K):∃ r,tY P σ t d=some r/\K r:=by
 unfold AZ9 at h;split at h
 ·rename_i k i o;split at h
  ·rename_i ro zz rows hσ;split at h
   ·rename_i r ag n hr hag hn;split at h
    ·rename_i hw;simp only[ac,beq_iff_eq,Bool.or_eq_true] at hw;obtain ⟨row,y,h1,h2,h3,h4⟩:=h;refine ⟨_,?_,h4⟩;have hR:(σ k).bind dS=some (a6 rows):=by rw[hσ];rfl
     unfold tY;simp only[hag,hn,hR,pRows_get?,h1,Option.map_some];cases ag with
     | true =>
      have:o+n<=(row.map D.p).length:=by simp;omega
      simp only[if_true,this];rw[<-List.map_drop,<-List.map_take,<-hw.1,h3,AQE];rfl
     | false =>
      have hn1:n=1:=by simpa using hw.2
      have hw1:r.w=1:=by omega
      have hl:(r.enc y).length=1:=by rw[Sy.cW];exact hw1
      obtain ⟨x,hx⟩:=List.length_eq_one_iff.1 hl;have:row[o]? = some x:=by
       have h5:((row.drop o).take r.w)[0]? = some x:=by rw[h3,hx];rfl
       rw[hw1] at h5;simpa [List.getElem?_take,List.getElem?_drop] using h5
      simp only[Bool.false_eq_true,if_false,List.getElem?_map,this,Option.map_some,aG,hx,hdT]
    ·exact h.elim
   ·exact h.elim
  ·exact dG h
 ·exact dG h
variable {y:D}
def Q1 {op:BinOp} {t:TypeId} {x:D} (h:A5Q oC P op t x y K):∃ r,JI P op t x y=some r/\K r:=by
 unfold A5Q at h;split at h
 ·split at h
  ·rename_i k a k' b;split at h
   ·rename_i hk;have hk:=of_decide_eq_true hk;subst hk;obtain ⟨hb,h⟩:=h;have hb:¬ b=0:=by simpa using hb
    exact ⟨_,by simp[JI,AK,QC,ZA,VP,hb],h⟩
   ·exact h.elim
  ·exact h.elim
 ·split at h
  ·rename_i k a k' b;split at h
   ·rename_i hk;have hk:=of_decide_eq_true hk;subst hk;obtain ⟨hb,h⟩:=h;have hb:¬ b=0:=by simpa using hb
    exact ⟨_,by simp[JI,AK,QC,ZA,VP,hb],h⟩
   ·exact h.elim
  ·exact h.elim
 ·split at h
  ·rename_i a b;obtain ⟨hb,h⟩:=h;have hb:((a.size+b.size:Nat):Int)<=9223372036854775807:=of_decide_eq_true hb;exact ⟨_,by simp only[JI,AK,QC,ZA,AJD,if_pos hb,Option.map_some],h⟩
  ·exact dG h
 ·exact dG h
def ACZ {op:BinOp} {t:TypeId} {x:D} (h:AIO oC P op t x y K):∃ r,JI P op t x y=some r/\K r:=by
 unfold AIO at h;split at h
 ·split at h
  ·rename_i k a k' b;obtain ⟨hb,h⟩:=h;rw[ac,ah,ah] at hb;exact ⟨_,by simp[JI,AK,QC,ZA,hb],h⟩
  ·exact h.elim
 ·split at h
  ·rename_i k a k' b;obtain ⟨hb,h⟩:=h;rw[ac,ah,ah] at hb;exact ⟨_,by simp[JI,AK,QC,ZA,hb],h⟩
  ·exact h.elim
 ·exact Q1 h
def gP {d:Option D} {dflt m hi:Nat} {b:Bool} (h:QD d dflt=some (m,b)) (hb:(b&&decide (m<=hi))=true):pF d dflt hi=some m:=by
 simp only[ac,ah] at hb;unfold QD at h;split at h
 ·cases h;simp[pF,hb.2]
 ·rename_i k i;cases h;have h0:0<=i:=of_decide_eq_true hb.1;have h1:i<=hi:=by have:=hb.2;omega
  simp[pF,h0,h1]
 ·cases h
def AC1 {t:TypeId} {d:D} {lo hi mx:Option D} (h:AIQ oC P σ t d lo hi mx K):∃ r,kT P σ t d lo hi mx=some r/\K r:=by
 unfold AIQ at h;split at h
 ·exact dG h
 ·split at h
  ·rename_i e he;split at h
   ·rename_i z hz;split at h
    ·rename_i tt;split at h
     ·rename_i full rows hrows;split at h
      ·rename_i hN bh lN bl h1 h2;obtain ⟨hb,h⟩:=h;rw[ac,ac] at hb;refine ⟨_,?_,h⟩;unfold kT;simp only[he,hz,hrows,hb.1.1,if_true,gP h1 hb.1.2,gP h2 hb.2]
      ·exact h.elim
     ·exact h.elim
    ·rename_i k;split at h
     ·rename_i ro zz rows hσ;split at h
      ·rename_i hN bh lN bl h1 h2;obtain ⟨hb,h⟩:=h;rw[ac] at hb;have hR:(σ k).bind dS=some (a6 rows):=by rw[hσ];rfl
       rw[qR] at h;by_cases heq:hN=lN
       ·refine ⟨_,?_,h.1 (by simpa using heq)⟩;unfold kT;simp only[he,hz,hR,bS,gP h1 hb.1,gP h2 hb.2];rw[if_pos heq]
       ·obtain ⟨hw,hk⟩:=h.2 (by simpa using heq);refine ⟨_,?_,hk⟩;unfold kT;simp only[he,hz,hR,bS,gP h1 hb.1,gP h2 hb.2];rw[if_neg heq,if_pos hw]
      ·exact h.elim
     ·exact dG h
    ·rename_i k off len;split at h
     ·rename_i hN bh lN bl h1 h2;obtain ⟨hb,h⟩:=h;rw[ac] at hb;rw[qR] at h;by_cases heq:hN=lN
      ·refine ⟨_,?_,h.1 (by simpa using heq)⟩;unfold kT;simp only[he,hz,gP h1 hb.1,gP h2 hb.2];rw[if_pos heq]
      ·obtain ⟨hw,hk⟩:=h.2 (by simpa using heq);refine ⟨_,?_,hk⟩;unfold kT;simp only[he,hz,gP h1 hb.1,gP h2 hb.2];rw[if_neg heq,if_pos hw]
     ·exact h.elim
    ·exact h.elim
   ·exact h.elim
  ·rename_i he;split at h
   ·rename_i s hu;split at h
    ·rename_i hN bh lN bl h1 h2;obtain ⟨hb,h⟩:=h;rw[ac] at hb;refine ⟨_,?_,h⟩;unfold kT;simp only[he,hu,gP h1 hb.1,gP h2 hb.2]
    ·exact h.elim
   ·exact dG h
def AFQ {t:TypeId} {d i:D} (h:AWR oC P t d i K):∃ r,GR P t d i=some r/\K r:=by
 unfold AWR at h;split at h
 ·rename_i kk j s hu;obtain ⟨b,h0,h1,h2⟩:=h;refine ⟨_,?_,h2⟩;unfold GR;have:¬ j<0:=by omega
  simp only[this,if_false,hu,h1,Option.map_some]
 ·exact dG h
def AHD {t:TypeId} {x i:D} {ok:Bool} (h:A0B oC P σ t x i ok K):∃ r,v7 P σ t x i ok=some r/\K r:=by
 unfold A0B at h;split at h
 ·rename_i kt et hu;split at h
  ·rename_i kd k z hk hz;split at h
   ·rename_i m hkey;split at h
    ·rename_i ro es hσ;split at h
     ·rename_i ag r hag hr;rcases h with ⟨h1,h2⟩|⟨i,y,h1,h2⟩
      ·refine ⟨_,?_,h2⟩;unfold v7;simp only[hu,hk,hz,hkey,hσ,h1];cases ok<;>rfl
      ·refine ⟨_,?_,h2⟩;unfold v7;simp only[hu,hk,hz,hkey,hσ,h1];cases ok<;>rfl
     ·exact h.elim
    ·exact h.elim
   ·rename_i es hkey;split at h
    ·rename_i ag r hag hr;rcases h with ⟨h1,h2⟩|⟨i,y,h1,h2⟩
     ·refine ⟨_,?_,h2⟩;unfold v7;simp only[hu,hk,hz,hkey,h1];cases ok<;>rfl
     ·refine ⟨_,?_,h2⟩;unfold v7;simp only[hu,hk,hz,hkey,h1];cases ok<;>rfl
    ·exact h.elim
   ·exact dG h
  ·exact h.elim
 ·exact h.elim
def uU:∀ (r:Sy),w7 r=true->∀ (x:r.den) (n:Nat),(r.enc x).all (T.rQ n)=true
 | .int _,_,x,n=>by cases n<;>simp[Sy.enc,T.rQ]
 | .bool,_,x,n=>by cases n<;>simp[Sy.enc,T.rQ]
 | .str,_,x,n=>by cases n<;>simp[Sy.enc,T.rQ]
 | .pr a b,h,x,n=>by
  simp only[w7,ac] at h;simp only[Sy.enc,List.all_append,ac];exact ⟨uU a h.1 x.1 n,uU b h.2 x.2 n⟩
def GB {ag:Bool} {r:Sy} (h:w7 r=true) (x:r.den) (n:Nat):T.rQ (n+1) (aG ag r x)=true:=by
 have:=uU r h x (n+1);cases ag with
 | true=>exact uU r h x n
 | false =>
  simp only[aG];cases he:r.enc x with
  | nil=>rfl
  | cons a l=>rw[he] at this;simp only[List.all_cons,ac] at this;exact this.1
def Q9:∀ (s:Sh),s.all (λx=>w7 x.2)=true->∀ (y:Sh.den s) (n:Nat),(Sh.lT s y).all (T.rQ (n+1))=true
 | [],_,_,_=>rfl
 | [a],h,y,n=>by
  simp only[List.all_cons,List.all_nil,Bool.and_true] at h;simp only[Sh.lT,List.all_cons,List.all_nil,Bool.and_true];exact GB h y n
 | a::b::l,h,y,n=>by
  rw[List.all_cons,ac] at h;simp only[Sh.lT,List.all_cons,ac] at *;have:=Q9 (b::l) (by rw[List.all_cons,ac];exact h.2) y.2 n;exact ⟨GB h.1 y.1 n,this⟩
def A6A {s:Sh} (h:s.all (λx=>w7 x.2)=true) (y:Sh.den s):(Sh.enc s y).flat=true:=by
 unfold T.flat
 match s,h,y with
 | [],h,y=>rfl
 | [a],h,y =>
  simp only[List.all_cons,List.all_nil,Bool.and_true] at h;exact GB h y 2
 | a::b::l,h,y=>exact Q9 (a::b::l) h y 1
def AFS {n:Nat} {f:D} {args:List D} (h:AWT oC P E σ n f args K):∃ r,qH E σ n f args=some r/\K r:=by
 unfold AWT at h;split at h
 ·rename_i fid a b hc;split at h
  ·rename_i g s hE hs;split at h
   ·rename_i ts hts;obtain ⟨y,h1,h2⟩:=h;refine ⟨_,?_,h2⟩;unfold qH;simp only[hc,hE,hts,h1,Option.map_some]
   ·rename_i hts;split at h
    ·rename_i ts hm hfl;obtain ⟨y,h1,h2⟩:=h;refine ⟨_,?_,h2⟩;unfold qH;simp only[hc,hE,hts,hm,h1,A6A hfl y,if_true]
    ·exact h.elim
  ·rename_i g s hE hs;obtain ⟨y,h1,h2⟩:=h;refine ⟨_,?_,h2⟩;unfold qH;simp only[hc,hE,h1,Option.map_some]
  ·rename_i g s hE hs;split at h
   ·rename_i ts hts;obtain ⟨y,h1,h2⟩:=h;refine ⟨_,?_,h2⟩;unfold qH;simp only[hc,hE,hts,h1,Option.map_some]
   ·exact h.elim
  ·rename_i g s hE hs;split at h
   ·rename_i ts hts;obtain ⟨y,h1,h2⟩:=h;refine ⟨_,?_,h2⟩;unfold qH;simp only[hc,hE,hts,h1,Option.map_some]
   ·exact h.elim
  ·rename_i g s hE hs;split at h
   ·rename_i ts hts;obtain ⟨y,h1,h2⟩:=h;refine ⟨_,?_,h2⟩;unfold qH;simp only[hc,hE,hts,h1,Option.map_some]
   ·exact h.elim
  ·exact h.elim
 ·exact h.elim
def ABU {t:TypeId} {a b:D} (h:AHE oC P t a b K):∃ d,ABT P t a b=some d/\K d:=by
 unfold AHE at h;split at h
 ·rename_i e he;split at h
  ·rename_i z by_ zv k1 x k2 y hz hby hzv;split at h
   ·rename_i hc;obtain ⟨hb,hk⟩:=h;refine ⟨_,?_,hk⟩;simp only[ABT,he,hz,hby,hzv,hc,hb,Bool.and_self]
   ·exact h.elim
  ·exact h.elim
 ·exact h.elim
def BO:∀ {rows:List (List T)} {xs:List Int},j6 rows=xs.map (Sy.int .u8).enc->BN rows=some xs
 | [],[],_=>rfl
 | [],_::_,h=>by cases h
 | _::_,[],h=>by cases h
 | r::rows,n::xs,h=>by
  unfold j6 at h;rw[List.map_cons,List.map_cons] at h;obtain ⟨h1,h2⟩:=List.cons.inj h;have ih:=BO (rows:=rows) (xs:=xs) h2
  match r,h1 with
  | [],h1=>cases h1
  | [t],h1 =>
   have h3:T.canon 0 t = .v (.int .u8 n):=(List.cons.inj h1).1;have e:t = .v (.int .u8 n):=by
    cases t with
    | v v =>
     unfold T.canon at h3;split at h3<;>first|exact h3|cases h3
    | _=>simp[T.canon] at h3
   subst e;simp only[BN,ih,Option.map_some]
  | _::_::_,h1=>cases (List.cons.inj h1).2
variable {src dst:TypeId}
def ZI {d:D} (h:AFY oC P σ src dst d K):∃ r,Q4 P σ src dst d=some r/\K r:=by
 unfold AFY at h;split at h
 ·split at h
  ·rename_i hσ hs hd;split at h
   ·rename_i he hz;obtain ⟨xs,hx,hb,hk⟩:=h;refine ⟨_,?_,hk⟩;simp only[Q4,hσ,hs,hd,he,BO hx];rw[if_pos ⟨of_decide_eq_true hz,of_decide_eq_true hb⟩]
   ·exact h.elim
  ·exact h.elim
 ·rename_i hn;obtain ⟨r,h1,h2⟩:=dG h;refine ⟨r,?_,h2⟩;unfold Q4;split
  ·exact absurd rfl (hn _)
  ·exact h1
def IK {d:D} (h:UW oC P src dst d K):∃ r,IJ P src dst d=some r/\K r:=by
 unfold UW at h;split at h
 ·rename_i s e hs hd;split at h
  ·rename_i he;obtain ⟨hb,hk⟩:=h;refine ⟨_,?_,hk⟩;simp only[IJ,MJ,AJW,hs,hd,he,hb]
  ·exact h.elim
 ·exact dG h
def ZJ {d:D} (h:AFZ oC P src dst d K):∃ r,IJ P src dst d=some r/\K r:=by
 unfold AFZ at h;split at h
 ·rename_i fl rows e hs hd;split at h
  ·rename_i he;obtain ⟨xs,hx,hk⟩:=h;refine ⟨_,?_,hk⟩;simp only[IJ,MJ,eZ,hs,hd,he,BO hx]
  ·exact h.elim
 ·exact IK h
def A1L {n:Nat} {s₀ s:Nat->D} {op:Op} (h:qvS oC P E n σ s₀ s op K):∃ d,qv P E n σ s₀ s true op=some d/\K d:=by
 unfold qvS at h;split at h
 ·exact APP h
 ·exact ABU h
 ·exact AHB h
 ·split at h
  ·exact ACZ h
  ·exact Q1 h
 ·exact AC1 h
 ·exact AFQ h
 ·exact AHD h
 ·rename_i src dst x;split at h
  ·rename_i hm;obtain ⟨d,h1,h2⟩:=ZI h;refine ⟨d,?_,h2⟩;simp only[qv,hm];exact h1
  ·rename_i hm;have h:∃ r,IJ P src dst (ev s x)=some r/\K r:=by
    split at h
    ·exact ZJ h
    ·exact IK h
   obtain ⟨d,h1,h2⟩:=h;refine ⟨d,?_,h2⟩;simp only[qv,hm];exact h1
 ·rename_i c;split at h
  ·rename_i f hf;obtain ⟨d,h1,h2⟩:=AFS h;refine ⟨d,?_,h2⟩;simp only[qv,hf];exact h1
  ·exact dG h
 ·exact dG h
end
end Go.Pv
