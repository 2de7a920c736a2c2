/-
  The symbolic executor, part b: operations.
-/
import Derived.Test.YtcnfagefgkblkaaGreatDoorVrka
set_option linter.defProp false
set_option linter.unusedSimpArgs false
namespace Go.Pv
open Go Go.RowKit
section
variable (C : Combs) (P : Program) (E : Env)
def rM (c:Nat) (x:Option D) (K:D->Prop):Prop:=match x with
 | some d=>K d
 | none=>C.bad c
def Sy.isAny:Sy->Bool
 | .any=>true
 | _=>false
def F2 (j:Int) (K:Int->Prop):Nat->Nat->Prop
 | 0,_=>C.bad 18
 | n+1,i=>aD (decide (j=Int.ofNat i)) (K (Int.ofNat i)) (F2 j K n (i+1))
def BKY (σ:Nat->Option bE) (t:TypeId) (d i:D) (K:D->Prop):Prop :=
 match i,mA P t with
 | .p (.v (.int _ j)),some e =>
  match tsz? P e,AAI P e with
  | some z,some r =>
   match r.isAny with
   | true=>rM C 17 (dM P σ t d i) K
   | false =>
   match r.w == z,d with
   | true,.p tt=>match fP tt with
    | some (_,rows)=>C.rows r rows j λy=>K (.p (.ref (r.enc y)))
    | none=>C.bad 11
   | true,.own k=>match σ k with
    | some (.arr _ _ rows)=>C.rows r rows j λ_=>K (.ptr k j.toNat 0)
    | _=>rM C 12 (dM P σ t d i) K
   | true,.bs k off len=>match σ k with
    | some (.arr _ _ rows)=>C.zX (decide (0<=j)&&decide (j.toNat<len)) (C.rows r rows (off+j.toNat:Nat) λ_=>K (.ptr k (off+j.toNat) 0))
    | _=>rM C 13 (dM P σ t d i) K
   | _,_=>C.bad 14
  | _,_=>C.bad 15
 | .p (.v (.int kk j)),none=>match AB4 P t with
  | some (m,_)=>match decide (m<=8) with
   | true=>F2 C j (λj=>rM C 19 (dM P σ t d (.p (.v (.int kk j)))) K) m 0
   | false=>rM C 16 (dM P σ t d i) K
  | none=>rM C 16 (dM P σ t d i) K
 | _,_=>rM C 16 (dM P σ t d i) K
def A6U (σ:Nat->Option bE) (t:TypeId) (d:D) (K:D->Prop):Prop :=
 match d with
 | .ptr k i o=>match σ k with
  | some (.arr _ _ rows)=>match AAI P t,CI P t,tsz? P t with
   | some r,some ag,some n=>match r.w == n&&(ag||n == 1) with
    | true=>C.part r rows i o λy=>K (.p (aF ag r y))
    | false=>C.bad 21
   | _,_,_=>C.bad 22
  | _=>rM C 23 (zP P σ t d) K
 | _=>rM C 24 (zP P σ t d) K
def BCU (op:BinOp) (t:TypeId) (x y:D) (K:D->Prop):Prop :=
 match op with
 | .quo=>match x,y with
  | .p (.v (.int k a)),.p (.v (.int k' b))=>match decide (k=k') with
   | true=>C.zX (!decide (b=0)) (K (.p (.v (.int k (k.wrap (a.tdiv b))))))
   | false=>C.bad 31
  | _,_=>C.bad 32
 | .rem=>match x,y with
  | .p (.v (.int k a)),.p (.v (.int k' b))=>match decide (k=k') with
   | true=>C.zX (!decide (b=0)) (K (.p (.v (.int k (a.tmod b)))))
   | false=>C.bad 33
  | _,_=>C.bad 34
 | .add=>match x,y with
  | .p (.v (.string a)),.p (.v (.string b))=>C.zX (decide (((a.size+b.size:Nat):Int)<=9223372036854775807)) (K (.p (.v (.string (a++b)))))
  | _,_=>rM C 35 (LD P .add t x y) K
 | op=>rM C 36 (LD P op t x y) K
def ANC (op:BinOp) (t:TypeId) (x y:D) (K:D->Prop):Prop :=
 match op with
 | .shl=>match x,y with
  | .p (.v (.int k a)),.p (.v (.int _ b))=>C.zX (decide (0<=b)&&decide (b<=k.bits)) (K (.p (.v (.int k (k.wrap (a*2 ^ b.toNat))))))
  | _,_=>C.bad 37
 | .shr=>match x,y with
  | .p (.v (.int k a)),.p (.v (.int _ b))=>C.zX (decide (0<=b)&&decide (b<=k.bits)) (K (.p (.v (.int k (a / 2 ^ b.toNat)))))
  | _,_=>C.bad 38
 | op=>BCU C P op t x y K
def SN (d:Option D) (dflt:Nat):Option (Nat×Bool):=match d with
 | none=>some (dflt,true)
 | some (.p (.v (.int _ i)))=>some (i.toNat,decide (0<=i))
 | _=>none
def A77 (z:Nat):List (List T)->Bool
 | r::_=>decide (r.length=z)
 | []=>false
def ANF (σ:Nat->Option bE) (t:TypeId) (d:D) (lo hi mx:Option D) (K:D->Prop):Prop :=
 match mx with
 | some _=>rM C 41 (kY P σ t d lo hi mx) K
 | none=>match mA P t with
  | some e=>match tsz? P e with
   | some z=>match d with
    | .p tt=>match fP tt with
     | some (full,rows)=>match SN hi rows.length,SN lo 0 with
      | some (h,bh),some (l,bl)=>C.zX (I6 z rows&&(bh&&decide (h<=rows.length))&&(bl&&decide (l<=h))) (K (.p (.sl (full&&decide (h=rows.length)) ((rows.take h).drop l))))
      | _,_=>C.bad 42
     | none=>C.bad 43
    | .own k=>match σ k with
     | some (.arr _ _ rows)=>match SN hi rows.length,SN lo 0 with
      | some (h,bh),some (l,bl)=>C.zX ((bh&&decide (h<=rows.length))&&(bl&&decide (l<=h))) (aD (decide (h=l)) (K (.p (.sl false []))) (C.zX (A77 z rows) (K (.bs k l (h-l)))))
      | _,_=>C.bad 44
     | _=>rM C 45 (kY P σ t d lo hi mx) K
    | .bs k off len=>match SN hi len,SN lo 0 with
     | some (h,bh),some (l,bl)=>C.zX ((bh&&decide (h<=len))&&(bl&&decide (l<=h))) (aD (decide (h=l)) (K (.p (.sl false []))) (C.zX (jX σ k z) (K (.bs k (off+l) (h-l)))))
     | _,_=>C.bad 46
    | _=>C.bad 47
   | none=>C.bad 48
  | none=>match P.underlying t,d with
   | some .string,.p (.v (.string s))=>match SN hi s.size,SN lo 0 with
    | some (h,bh),some (l,bl)=>C.zX ((bh&&decide (h<=s.size))&&(bl&&decide (l<=h))) (K (.p (.v (.string (s.extract l h)))))
    | _,_=>C.bad 49
   | _,_=>rM C 50 (kY P σ t d lo hi mx) K
def A2Y (t:TypeId) (d i:D) (K:D->Prop):Prop :=
 match i,d,P.underlying t with
 | .p (.v (.int _ j)),.p (.v (.string s)),some .string=>C.byte s j λb=>K (.p (.v (.int .u8 b)))
 | _,_,_=>rM C 51 (IV P t d i) K
def A6V (σ:Nat->Option bE) (t:TypeId) (x i:D) (ok:Bool) (K:D->Prop):Prop :=
 match P.underlying t with
 | some (.map kt et) =>
  match wB P kt,i,tz? P et with
  | some kd,.p (.v k),some z =>
   match DZ kd k,x with
   | true,.map m =>
    match σ m with
    | some (.map _ es)=>match CI P et,AAI P et with
     | some ag,some r=>C.find kd k es ag r (K (match ok with|true=>LQ (.p (.v z)) (.v (.bool false))|false=>.p (.v z)))
       λ_ y=>K (match ok with|true=>.p (.bX [aF ag r y,.v (.bool true)])|false=>.p (aF ag r y))
     | _,_=>C.bad 61
    | _=>C.bad 62
   | true,.p (.mp es)=>match CI P et,AAI P et with
    | some ag,some r=>C.find kd k (rI es) ag r (K (match ok with|true=>LQ (.p (.v z)) (.v (.bool false))|false=>.p (.v z)))
      λ_ y=>K (match ok with|true=>.p (.bX [aF ag r y,.v (.bool true)])|false=>.p (aF ag r y))
    | _,_=>C.bad 66
   | _,_=>rM C 63 (wY P σ t x i ok) K
  | _,_,_=>C.bad 64
 | _=>C.bad 65
def xS:Sy->Bool
 | .int _=>true
 | .bool=>true
 | .str=>true
 | .pr a b=>xS a&&xS b
 | _=>false
def VC (fid:FuncId):Option Sh:=match P.funcs[fid]? with
 | some fn=>shL P fn.resultTypes.toList
 | none=>none
def A20 (σ:Nat->Option bE) (n:Nat) (f:D) (args:List D) (K:D->Prop):Prop :=
 match jT f with
 | some (fid,a,b)=>match E fid,VC P fid with
  | some (.pure g),some s=>match j0 (a++args++b) with
   | some ts=>C.call s (g ts) λy=>K (.p (Sh.enc s y))
   | none=>match (a++args++b).mapM (iG σ 4),s.all (λx=>xS x.2) with
    | some ts,true=>C.call s (g ts) λy=>K (.p (Sh.enc s y))
    | _,_=>C.bad 71
  | some (.read g),some s=>C.call s (g (a++args++b) σ n) λy=>K (.p (Sh.enc s y))
  | some (.new g),some s=>match (a++args++b).mapM (iG σ 4) with
   | some ts=>C.call s (g ts) λy=>K (.p (Sh.enc s y))
   | none=>C.bad 74
  | some (.ATX g),some _=>match (a++args++b).mapM (iG σ 4) with
   | some ts=>C.opt (List (iII×Int)) (g ts) λes=>K (.p (.mp (bN es)))
   | none=>C.bad 75
  | some (.ext g),some s=>match j0 (a++args++b) with
   | some ts=>C.call s (g ts) λy=>K (.p (Sh.enc s y))
   | none=>C.bad 76
  | _,_=>C.bad 72
 | none=>C.bad 73
def ALT (t:TypeId) (len cap:D) (K:D->Prop):Prop :=
 match mA P t with
 | some e =>
  match tsz? P e,tby? P e,tz? P e,len,cap with
  | some z,some by_,some zv,.p (.v (.int _ a)),.p (.v (.int _ b)) =>
   match decide (0<z)&&zv.cells.size == z&&zv.cells.all Value.oneCell' with
   | true=>C.zX (decide (a=b)&&decide (0<=b)&&decide (b*by_<=140737488355328)&&decide (b<=140737488355328)) (K (.p (.sl false (List.replicate a.toNat (zv.cells.toList.map .v)))))
   | false=>C.bad 18
  | _,_,_,_,_=>C.bad 19
 | none=>C.bad 20
def AJW (σ:Nat->Option bE) (src dst:TypeId) (d:D) (K:D->Prop):Prop :=
 match d with
 | .own k=>match σ k,P.underlying src,P.underlying dst with
  | some (.arr _ z rows),some (.slice e),some .string=>match P.underlying e,decide (z=1) with
   | some (.int .u8),true=>C.dec (.int .u8) rows λxs=>C.zX (decide (0<rows.length)) (K (.p (.v (.string (strOfNums xs)))))
   | _,_=>C.bad 21
  | _,_,_=>C.bad 22
 | d=>rM C 83 (OT P src dst d) K
def XH (src dst:TypeId) (d:D) (K:D->Prop):Prop :=
 match d,P.underlying src,P.underlying dst with
 | .p (.v (.string s)),some .string,some (.slice e)=>match P.underlying e with
  | some (.int .u8)=>C.zX (decide (s.size<=140737488355328)) (K (.p (.sl false (vK s))))
  | _=>C.bad 84
 | d,_,_=>rM C 82 (KI P src dst d) K
def AJX (src dst:TypeId) (d:D) (K:D->Prop):Prop :=
 match d,P.underlying src,P.underlying dst with
 | .p (.sl fl rows),some (.slice e),some .string=>match P.underlying e with
  | some (.int .u8)=>C.dec (.int .u8) rows λxs=>K (.p (.v (.string (strOfNums xs))))
  | _=>C.bad 85
 | d,_,_=>XH C P src dst d K
def qvS (n:Nat) (σ:Nat->Option bE) (s₀ s:Nat->D) (op:Op) (K:D->Prop):Prop :=
 match op with
 | .indexAddr t x i=>BKY C P σ t (ev s x) (ev s i) K
 | .makeSlice t l c=>ALT C P t (ev s l) (ev s c) K
 | .load t a=>A6U C P σ t (ev s a) K
 | .binOp op t x y _=>match Env.marked E 8000000000 with
  | true=>ANC C P op t (ev s x) (ev s y) K
  | false=>BCU C P op t (ev s x) (ev s y) K
 | .slice t x lo hi mx=>ANF C P σ t (ev s x) (lo.map (ev s)) (hi.map (ev s)) (mx.map (ev s)) K
 | .index t x i=>A2Y C P t (ev s x) (ev s i) K
 | .lookup t x i ok=>A6V C P σ t (ev s x) (ev s i) ok K
 | .convert src dst x=>match E.marked (6000000000+src) with
  | true=>AJW C P σ src dst (ev s x) K
  | false=>match Env.marked E 8000000000 with
   | true=>AJX C P src dst (ev s x) K
   | false=>XH C P src dst (ev s x) K
 | .call c=>match c.callee with
  | .value f=>A20 C P E σ n (ev s f) (c.args.toList.map (ev s)) K
  | _=>rM C 81 (qv P E n σ s₀ s true op) K
 | op=>rM C 82 (qv P E n σ s₀ s true op) K
end
section
variable {P : Program} {E : Env}
variable {K:D->Prop}
def dK {c:Nat} {x:Option D} (h:rM nL c x K):∃ d,x=some d/\K d:=by
 unfold rM at h;split at h
 ·simp_all
 ·exact h.elim
def AVX (l:List T):UZ (l.map .p) = .p (.agg l):=by unfold UZ;rw[N8]
def CT {j:Int} {K:Int->Prop}:∀ {n i:Nat},F2 nL j K n i->∃ q,j=q/\K q
 | 0,_,h=>h.elim
 | n+1,i,h=>by
  unfold F2 at h;cases hd:decide (j=Int.ofNat i) with
  | true=>rw[hd] at h;exact ⟨_,of_decide_eq_true hd,h⟩
  | false=>rw[hd] at h;exact CT (n:=n) (i:=i+1) h
variable {σ:Nat->Option bE}
def AVD {t:TypeId} {d i:D} (h:BKY nL P σ t d i K):∃ r,dM P σ t d i=some r/\K r:=by
 unfold BKY at h;split at h
 ·rename_i kk j e he;split at h
  ·rename_i z r hz hr;split at h
   ·exact dK h
   split at h
   ·rename_i tt hw;have hw:r.w=z:=by simpa using hw
    split at h
    ·rename_i f rows hrows;obtain ⟨y,h0,h1,h2⟩:=h;refine ⟨_,?_,h2⟩;unfold dM;have:¬ j<0:=by omega
     simp only[this,if_false,he,hz,hrows,h1,Sy.dA,hw,if_true]
    ·exact h.elim
   ·rename_i k hw;have hw:r.w=z:=by simpa using hw
    split at h
    ·rename_i ro zz rows hσ;obtain ⟨y,h0,h1,h2⟩:=h;refine ⟨_,?_,h2⟩;unfold dM;have:¬ j<0:=by omega
     have hR:(σ k).bind dZ=some (aY rows):=by rw[hσ];rfl
     simp only[this,if_false,he,hz,hR,pRows_get?,h1,Option.map_some,ad,Sy.dA,hw,if_true]
    ·exact dK h
   ·rename_i k off len hw;have hw:r.w=z:=by simpa using hw
    split at h
    ·rename_i ro zz rows hσ;obtain ⟨hb,y,h0,h1,h2⟩:=h;simp only[ac,ae] at hb;refine ⟨_,?_,h2⟩;unfold dM;have:¬ j<0:=by omega
     have hR:(σ k).bind dZ=some (aY rows):=by rw[hσ];rfl
     simp only[Int.toNat_natCast] at h1;simp only[this,if_false,he,hz,hb.2,if_true,hR,pRows_get?,h1,Option.map_some,ad,Sy.dA,hw,if_true]
    ·exact dK h
   ·exact h.elim
  ·exact h.elim
 ·split at h
  ·split at h
   ·obtain ⟨_,rfl,h⟩:=CT h;exact dK h
   ·exact dK h
  ·exact dK h
 ·exact dK h
def ALQ {t:TypeId} {d:D} (h:A6U nL P σ t d K):∃ r,zP P σ t d=some r/\K r:=by
 unfold A6U at h;split at h
 ·rename_i k i o;split at h
  ·rename_i ro zz rows hσ;split at h
   ·rename_i r ag n hr hag hn;split at h
    ·rename_i hw;simp only[ac,beq_iff_eq,Bool.or_eq_true] at hw;obtain ⟨row,y,h1,h2,h3,h4⟩:=h;refine ⟨_,?_,h4⟩;have hR:(σ k).bind dZ=some (aY rows):=by rw[hσ];rfl
     unfold zP;simp only[hag,hn,hR,pRows_get?,h1,Option.map_some];cases ag with
     | true =>
      have:o+n<=(row.map D.p).length:=by simp;omega
      simp only[if_true,this];rw[<-List.map_drop,<-List.map_take,<-hw.1,h3,AVX];rfl
     | false =>
      have hn1:n=1:=by simpa using hw.2
      have hw1:r.w=1:=by omega
      have hl:(r.enc y).length=1:=by rw[Sy.dA];exact hw1
      obtain ⟨x,hx⟩:=List.length_eq_one_iff.1 hl;have:row[o]? = some x:=by
       have h5:((row.drop o).take r.w)[0]? = some x:=by rw[h3,hx];rfl
       rw[hw1] at h5;simpa [List.getElem?_take,List.getElem?_drop] using h5
      simp only[Bool.false_eq_true,if_false,List.getElem?_map,this,Option.map_some,aF,hx,hdT]
    ·exact h.elim
   ·exact h.elim
  ·exact dK h
 ·exact dK h
variable {y:D}
def TL {op:BinOp} {t:TypeId} {x:D} (h:BCU nL P op t x y K):∃ r,LD P op t x y=some r/\K r:=by
 unfold BCU at h;split at h
 ·split at h
  ·rename_i k a k' b;split at h
   ·rename_i hk;have hk:=of_decide_eq_true hk;subst hk;obtain ⟨hb,h⟩:=h;have hb:¬ b=0:=by simpa using hb
    exact ⟨_,by simp[LD,B4,SM,AB8,YN,hb],h⟩
   ·exact h.elim
  ·exact h.elim
 ·split at h
  ·rename_i k a k' b;split at h
   ·rename_i hk;have hk:=of_decide_eq_true hk;subst hk;obtain ⟨hb,h⟩:=h;have hb:¬ b=0:=by simpa using hb
    exact ⟨_,by simp[LD,B4,SM,AB8,YN,hb],h⟩
   ·exact h.elim
  ·exact h.elim
 ·split at h
  ·rename_i a b;obtain ⟨hb,h⟩:=h;have hb:((a.size+b.size:Nat):Int)<=9223372036854775807:=of_decide_eq_true hb;exact ⟨_,by simp only[LD,B4,SM,AB8,AN2,if_pos hb,Option.map_some],h⟩
  ·exact dK h
 ·exact dK h
def AGM {op:BinOp} {t:TypeId} {x:D} (h:ANC nL P op t x y K):∃ r,LD P op t x y=some r/\K r:=by
 unfold ANC at h;split at h
 ·split at h
  ·rename_i k a k' b;obtain ⟨hb,h⟩:=h;rw[ac,ae,ae] at hb;exact ⟨_,by simp[LD,B4,SM,AB8,hb],h⟩
  ·exact h.elim
 ·split at h
  ·rename_i k a k' b;obtain ⟨hb,h⟩:=h;rw[ac,ae,ae] at hb;exact ⟨_,by simp[LD,B4,SM,AB8,hb],h⟩
  ·exact h.elim
 ·exact TL h
def gT {d:Option D} {dflt m hi:Nat} {b:Bool} (h:SN d dflt=some (m,b)) (hb:(b&&decide (m<=hi))=true):pK d dflt hi=some m:=by
 simp only[ac,ae] at hb;unfold SN at h;split at h
 ·cases h;simp[pK,hb.2]
 ·rename_i k i;cases h;have h0:0<=i:=of_decide_eq_true hb.1;have h1:i<=hi:=by have:=hb.2;omega
  simp[pK,h0,h1]
 ·cases h
def AGO {t:TypeId} {d:D} {lo hi mx:Option D} (h:ANF nL P σ t d lo hi mx K):∃ r,kY P σ t d lo hi mx=some r/\K r:=by
 unfold ANF at h;split at h
 ·exact dK h
 ·split at h
  ·rename_i e he;split at h
   ·rename_i z hz;split at h
    ·rename_i tt;split at h
     ·rename_i full rows hrows;split at h
      ·rename_i hN bh lN bl h1 h2;obtain ⟨hb,h⟩:=h;rw[ac,ac] at hb;refine ⟨_,?_,h⟩;unfold kY;simp only[he,hz,hrows,hb.1.1,if_true,gT h1 hb.1.2,gT h2 hb.2]
      ·exact h.elim
     ·exact h.elim
    ·rename_i k;split at h
     ·rename_i ro zz rows hσ;split at h
      ·rename_i hN bh lN bl h1 h2;obtain ⟨hb,h⟩:=h;rw[ac] at hb;have hR:(σ k).bind dZ=some (aY rows):=by rw[hσ];rfl
       rw[rA] at h;by_cases heq:hN=lN
       ·refine ⟨_,?_,h.1 (by simpa using heq)⟩;unfold kY;simp only[he,hz,hR,bQ,gT h1 hb.1,gT h2 hb.2];rw[if_pos heq]
       ·obtain ⟨hw,hk⟩:=h.2 (by simpa using heq);have hw:jX σ k z=true:=by
         unfold jX;rw[hR];cases rows with
         | nil=>cases hw
         | cons r l=>simpa [aY,A77] using hw
        refine ⟨_,?_,hk⟩;unfold kY;simp only[he,hz,hR,bQ,gT h1 hb.1,gT h2 hb.2];rw[if_neg heq,if_pos hw]
      ·exact h.elim
     ·exact dK h
    ·rename_i k off len;split at h
     ·rename_i hN bh lN bl h1 h2;obtain ⟨hb,h⟩:=h;rw[ac] at hb;rw[rA] at h;by_cases heq:hN=lN
      ·refine ⟨_,?_,h.1 (by simpa using heq)⟩;unfold kY;simp only[he,hz,gT h1 hb.1,gT h2 hb.2];rw[if_pos heq]
      ·obtain ⟨hw,hk⟩:=h.2 (by simpa using heq);refine ⟨_,?_,hk⟩;unfold kY;simp only[he,hz,gT h1 hb.1,gT h2 hb.2];rw[if_neg heq,if_pos hw]
     ·exact h.elim
    ·exact h.elim
   ·exact h.elim
  ·rename_i he;split at h
   ·rename_i s hu;split at h
    ·rename_i hN bh lN bl h1 h2;obtain ⟨hb,h⟩:=h;rw[ac] at hb;refine ⟨_,?_,h⟩;unfold kY;simp only[he,hu,gT h1 hb.1,gT h2 hb.2]
    ·exact h.elim
   ·exact dK h
def AJN {t:TypeId} {d i:D} (h:A2Y nL P t d i K):∃ r,IV P t d i=some r/\K r:=by
 unfold A2Y at h;split at h
 ·rename_i kk j s hu;obtain ⟨b,h0,h1,h2⟩:=h;refine ⟨_,?_,h2⟩;unfold IV;have:¬ j<0:=by omega
  simp only[this,if_false,hu,h1,Option.map_some]
 ·exact dK h
def ALS {t:TypeId} {x i:D} {ok:Bool} (h:A6V nL P σ t x i ok K):∃ r,wY P σ t x i ok=some r/\K r:=by
 unfold A6V at h;split at h
 ·rename_i kt et hu;split at h
  ·rename_i kd k z hk hz;split at h
   ·rename_i m hkey;split at h
    ·rename_i ro es hσ;split at h
     ·rename_i ag r hag hr;rcases h with ⟨h1,h2⟩|⟨i,y,h1,h2⟩
      ·refine ⟨_,?_,h2⟩;unfold wY;simp only[hu,hk,hz,hkey,hσ,h1];cases ok<;>rfl
      ·refine ⟨_,?_,h2⟩;unfold wY;simp only[hu,hk,hz,hkey,hσ,h1];cases ok<;>rfl
     ·exact h.elim
    ·exact h.elim
   ·rename_i es hkey;split at h
    ·rename_i ag r hag hr;rcases h with ⟨h1,h2⟩|⟨i,y,h1,h2⟩
     ·refine ⟨_,?_,h2⟩;unfold wY;simp only[hu,hk,hz,hkey,h1];cases ok<;>rfl
     ·refine ⟨_,?_,h2⟩;unfold wY;simp only[hu,hk,hz,hkey,h1];cases ok<;>rfl
    ·exact h.elim
   ·exact dK h
  ·exact h.elim
 ·exact h.elim
def vO:∀ (r:Sy),xS r=true->∀ (x:r.den) (n:Nat),(r.enc x).all (T.wX n)=true
 | .int _,_,x,n=>by cases n<;>simp[Sy.enc,T.wX]
 | .bool,_,x,n=>by cases n<;>simp[Sy.enc,T.wX]
 | .str,_,x,n=>by cases n<;>simp[Sy.enc,T.wX]
 | .pr a b,h,x,n=>by
  simp only[xS,ac] at h;simp only[Sy.enc,List.all_append,ac];exact ⟨vO a h.1 x.1 n,vO b h.2 x.2 n⟩
def IA {ag:Bool} {r:Sy} (h:xS r=true) (x:r.den) (n:Nat):T.wX (n+1) (aF ag r x)=true:=by
 have:=vO r h x (n+1);cases ag with
 | true=>exact vO r h x n
 | false =>
  simp only[aF];cases he:r.enc x with
  | nil=>rfl
  | cons a l=>rw[he] at this;simp only[List.all_cons,ac] at this;exact this.1
def TT:∀ (s:Sh),s.all (λx=>xS x.2)=true->∀ (y:Sh.den s) (n:Nat),(Sh.iS s y).all (T.wX (n+1))=true
 | [],_,_,_=>rfl
 | [a],h,y,n=>by
  simp only[List.all_cons,List.all_nil,Bool.and_true] at h;simp only[Sh.iS,List.all_cons,List.all_nil,Bool.and_true];exact IA h y n
 | a::b::l,h,y,n=>by
  rw[List.all_cons,ac] at h;simp only[Sh.iS,List.all_cons,ac] at *;have:=TT (b::l) (by rw[List.all_cons,ac];exact h.2) y.2 n;exact ⟨IA h.1 y.1 n,this⟩
def BDG {s:Sh} (h:s.all (λx=>xS x.2)=true) (y:Sh.den s):(Sh.enc s y).flat=true:=by
 unfold T.flat
 match s,h,y with
 | [],h,y=>rfl
 | [a],h,y =>
  simp only[List.all_cons,List.all_nil,Bool.and_true] at h;exact IA h y 2
 | a::b::l,h,y=>exact TT (a::b::l) h y 1
def AJP {n:Nat} {f:D} {args:List D} (h:A20 nL P E σ n f args K):∃ r,qR E σ n f args=some r/\K r:=by
 unfold A20 at h;split at h
 ·rename_i fid a b hc;split at h
  ·rename_i g s hE hs;split at h
   ·rename_i ts hts;obtain ⟨y,h1,h2⟩:=h;refine ⟨_,?_,h2⟩;unfold qR;simp only[hc,hE,hts,h1,Option.map_some]
   ·rename_i hts;split at h
    ·rename_i ts hm hfl;obtain ⟨y,h1,h2⟩:=h;refine ⟨_,?_,h2⟩;unfold qR;simp only[hc,hE,hts,hm,h1,BDG hfl y,if_true]
    ·exact h.elim
  ·rename_i g s hE hs;obtain ⟨y,h1,h2⟩:=h;refine ⟨_,?_,h2⟩;unfold qR;simp only[hc,hE,h1,Option.map_some]
  ·rename_i g s hE hs;split at h
   ·rename_i ts hts;obtain ⟨y,h1,h2⟩:=h;refine ⟨_,?_,h2⟩;unfold qR;simp only[hc,hE,hts,h1,Option.map_some]
   ·exact h.elim
  ·rename_i g s hE hs;split at h
   ·rename_i ts hts;obtain ⟨y,h1,h2⟩:=h;refine ⟨_,?_,h2⟩;unfold qR;simp only[hc,hE,hts,h1,Option.map_some]
   ·exact h.elim
  ·rename_i g s hE hs;split at h
   ·rename_i ts hts;obtain ⟨y,h1,h2⟩:=h;refine ⟨_,?_,h2⟩;unfold qR;simp only[hc,hE,hts,h1,Option.map_some]
   ·exact h.elim
  ·exact h.elim
 ·exact h.elim
def AFG {t:TypeId} {a b:D} (h:ALT nL P t a b K):∃ d,AFF P t a b=some d/\K d:=by
 unfold ALT at h;split at h
 ·rename_i e he;split at h
  ·rename_i z by_ zv k1 x k2 y hz hby hzv;split at h
   ·rename_i hc;obtain ⟨hb,hk⟩:=h;refine ⟨_,?_,hk⟩;simp only[AFF,he,hz,hby,hzv,hc,hb,Bool.and_self]
   ·exact h.elim
  ·exact h.elim
 ·exact h.elim
def DG:∀ {rows:List (List T)} {xs:List Int},kK rows=xs.map (Sy.int .u8).enc->DF rows=some xs
 | [],[],_=>rfl
 | [],_::_,h=>by cases h
 | _::_,[],h=>by cases h
 | r::rows,n::xs,h=>by
  unfold kK at h;rw[List.map_cons,List.map_cons] at h;obtain ⟨h1,h2⟩:=List.cons.inj h;have ih:=DG (rows:=rows) (xs:=xs) h2
  match r,h1 with
  | [],h1=>cases h1
  | [t],h1 =>
   have h3:T.canon 0 t = .v (.int .u8 n):=(List.cons.inj h1).1;have e:t = .v (.int .u8 n):=by
    cases t with
    | v v =>
     unfold T.canon at h3;split at h3<;>first|exact h3|cases h3
    | _=>simp[T.canon] at h3
   subst e;simp only[DF,ih,Option.map_some]
  | _::_::_,h1=>cases (List.cons.inj h1).2
variable {src dst:TypeId}
def ACI {d:D} (h:AJW nL P σ src dst d K):∃ r,TO P σ src dst d=some r/\K r:=by
 unfold AJW at h;split at h
 ·split at h
  ·rename_i hσ hs hd;split at h
   ·rename_i he hz;obtain ⟨xs,hx,hb,hk⟩:=h;refine ⟨_,?_,hk⟩;simp only[TO,hσ,hs,hd,he,DG hx];rw[if_pos ⟨of_decide_eq_true hz,of_decide_eq_true hb⟩]
   ·exact h.elim
  ·exact h.elim
 ·rename_i hn;obtain ⟨r,h1,h2⟩:=dK h;refine ⟨r,?_,h2⟩;unfold TO;split
  ·exact absurd rfl (hn _)
  ·exact h1
def KJ {d:D} (h:XH nL P src dst d K):∃ r,KI P src dst d=some r/\K r:=by
 unfold XH at h;split at h
 ·rename_i s e hs hd;split at h
  ·rename_i he;obtain ⟨hb,hk⟩:=h;refine ⟨_,?_,hk⟩;simp only[KI,OT,AOP,hs,hd,he,hb]
  ·exact h.elim
 ·exact dK h
def ACJ {d:D} (h:AJX nL P src dst d K):∃ r,KI P src dst d=some r/\K r:=by
 unfold AJX at h;split at h
 ·rename_i fl rows e hs hd;split at h
  ·rename_i he;obtain ⟨xs,hx,hk⟩:=h;refine ⟨_,?_,hk⟩;simp only[KI,OT,fP,hs,hd,he,DG hx]
  ·exact h.elim
 ·exact KJ h
def A8J {n:Nat} {s₀ s:Nat->D} {op:Op} (h:qvS nL P E n σ s₀ s op K):∃ d,qv P E n σ s₀ s true op=some d/\K d:=by
 unfold qvS at h;split at h
 ·exact AVD h
 ·exact AFG h
 ·exact ALQ h
 ·split at h
  ·exact AGM h
  ·exact TL h
 ·exact AGO h
 ·exact AJN h
 ·exact ALS h
 ·rename_i src dst x;split at h
  ·rename_i hm;obtain ⟨d,h1,h2⟩:=ACI h;refine ⟨d,?_,h2⟩;simp only[qv,hm];exact h1
  ·rename_i hm;have h:∃ r,KI P src dst (ev s x)=some r/\K r:=by
    split at h
    ·exact ACJ h
    ·exact KJ h
   obtain ⟨d,h1,h2⟩:=h;refine ⟨d,?_,h2⟩;simp only[qv,hm];exact h1
 ·rename_i c;split at h
  ·rename_i f hf;obtain ⟨d,h1,h2⟩:=AJP h;refine ⟨d,?_,h2⟩;simp only[qv,hf];exact h1
  ·exact dK h
 ·exact dK h
end
end Go.Pv
