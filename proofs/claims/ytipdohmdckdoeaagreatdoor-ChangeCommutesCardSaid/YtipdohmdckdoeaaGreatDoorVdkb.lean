/-
  The symbolic executor, part b: operations.
-/
import Derived.Test.YtipdohmdckdoeaaGreatDoorVdka
set_option linter.defProp false
set_option linter.unusedSimpArgs false
namespace Go.Pv
open Go Go.RowKit
section
variable (C : Combs) (P : Program) (E : Env)
def rK (c:Nat) (x:Option D) (K:D->Prop):Prop:=match x with
 | some d=>K d
 | none=>C.bad c
def Sy.isAny:Sy->Bool
 | .any=>true
 | _=>false
def EM (j:Int) (K:Int->Prop):Nat->Nat->Prop
 | 0,_=>C.bad 18
 | n+1,i=>aC (decide (j=Int.ofNat i)) (K (Int.ofNat i)) (EM j K n (i+1))
def BC7 (σ:Nat->Option bG) (t:TypeId) (d i:D) (K:D->Prop):Prop :=
 match i,mD P t with
 | .p (.v (.int _ j)),some e =>
  match tsz? P e,AC5 P e with
  | some z,some r =>
   match r.isAny with
   | true=>rK C 17 (cZ P σ t d i) K
   | false =>
   match r.w == z,d with
   | true,.p tt=>match fA tt with
    | some (_,rows)=>C.rows r rows j λy=>K (.p (.ref (r.enc y)))
    | none=>C.bad 11
   | true,.own k=>match σ k with
    | some (.arr _ _ rows)=>C.rows r rows j λ_=>K (.ptr k j.toNat 0)
    | _=>rK C 12 (cZ P σ t d i) K
   | true,.bs k off len=>match σ k with
    | some (.arr _ _ rows)=>C.AO (decide (0<=j)&&decide (j.toNat<len)) (C.rows r rows (off+j.toNat:Nat) λ_=>K (.ptr k (off+j.toNat) 0))
    | _=>rK C 13 (cZ P σ t d i) K
   | _,_=>C.bad 14
  | _,_=>C.bad 15
 | .p (.v (.int kk j)),none=>match Y4 P t with
  | some (m,_)=>match decide (m<=8) with
   | true=>EM C j (λj=>rK C 19 (cZ P σ t d (.p (.v (.int kk j)))) K) m 0
   | false=>rK C 16 (cZ P σ t d i) K
  | none=>rK C 16 (cZ P σ t d i) K
 | _,_=>rK C 16 (cZ P σ t d i) K
def AZ6 (σ:Nat->Option bG) (t:TypeId) (d:D) (K:D->Prop):Prop :=
 match d with
 | .ptr k i o=>match σ k with
  | some (.arr _ _ rows)=>match AC5 P t,BW P t,tsz? P t with
   | some r,some ag,some n=>match r.w == n&&(ag||n == 1) with
    | true=>C.part r rows i o λy=>K (.p (aH ag r y))
    | false=>C.bad 21
   | _,_,_=>C.bad 22
  | _=>rK C 23 (uK P σ t d) K
 | _=>rK C 24 (uK P σ t d) K
def A5Q (op:BinOp) (t:TypeId) (x y:D) (K:D->Prop):Prop :=
 match op with
 | .quo=>match x,y with
  | .p (.v (.int k a)),.p (.v (.int k' b))=>match decide (k=k') with
   | true=>C.AO (!decide (b=0)) (K (.p (.v (.int k (k.wrap (a.tdiv b))))))
   | false=>C.bad 31
  | _,_=>C.bad 32
 | .rem=>match x,y with
  | .p (.v (.int k a)),.p (.v (.int k' b))=>match decide (k=k') with
   | true=>C.AO (!decide (b=0)) (K (.p (.v (.int k (a.tmod b)))))
   | false=>C.bad 33
  | _,_=>C.bad 34
 | .add=>match x,y with
  | .p (.v (.string a)),.p (.v (.string b))=>C.AO (decide (((a.size+b.size:Nat):Int)<=9223372036854775807)) (K (.p (.v (.string (a++b)))))
  | _,_=>rK C 35 (JU P .add t x y) K
 | op=>rK C 36 (JU P op t x y) K
def AIN (op:BinOp) (t:TypeId) (x y:D) (K:D->Prop):Prop :=
 match op with
 | .shl=>match x,y with
  | .p (.v (.int k a)),.p (.v (.int _ b))=>C.AO (decide (0<=b)&&decide (b<=k.bits)) (K (.p (.v (.int k (k.wrap (a*2 ^ b.toNat))))))
  | _,_=>C.bad 37
 | .shr=>match x,y with
  | .p (.v (.int k a)),.p (.v (.int _ b))=>C.AO (decide (0<=b)&&decide (b<=k.bits)) (K (.p (.v (.int k (a / 2 ^ b.toNat)))))
  | _,_=>C.bad 38
 | op=>A5Q C P op t x y K
def QB (d:Option D) (dflt:Nat):Option (Nat×Bool):=match d with
 | none=>some (dflt,true)
 | some (.p (.v (.int _ i)))=>some (i.toNat,decide (0<=i))
 | _=>none
def AIP (σ:Nat->Option bG) (t:TypeId) (d:D) (lo hi mx:Option D) (K:D->Prop):Prop :=
 match mx with
 | some _=>rK C 41 (lC P σ t d lo hi mx) K
 | none=>match mD P t with
  | some e=>match tsz? P e with
   | some z=>match d with
    | .p tt=>match fA tt with
     | some (full,rows)=>match QB hi rows.length,QB lo 0 with
      | some (h,bh),some (l,bl)=>C.AO (HI z rows&&(bh&&decide (h<=rows.length))&&(bl&&decide (l<=h))) (K (.p (.sl (full&&decide (h=rows.length)) ((rows.take h).drop l))))
      | _,_=>C.bad 42
     | none=>C.bad 43
    | .own k=>match σ k with
     | some (.arr _ _ rows)=>match QB hi rows.length,QB lo 0 with
      | some (h,bh),some (l,bl)=>C.AO ((bh&&decide (h<=rows.length))&&(bl&&decide (l<=h))) (aC (decide (h=l)) (K (.p (.sl false []))) (C.AO (kP σ k z) (K (.bs k l (h-l)))))
      | _,_=>C.bad 44
     | _=>rK C 45 (lC P σ t d lo hi mx) K
    | .bs k off len=>match QB hi len,QB lo 0 with
     | some (h,bh),some (l,bl)=>C.AO ((bh&&decide (h<=len))&&(bl&&decide (l<=h))) (aC (decide (h=l)) (K (.p (.sl false []))) (C.AO (kP σ k z) (K (.bs k (off+l) (h-l)))))
     | _,_=>C.bad 46
    | _=>C.bad 47
   | none=>C.bad 48
  | none=>match P.underlying t,d with
   | some .string,.p (.v (.string s))=>match QB hi s.size,QB lo 0 with
    | some (h,bh),some (l,bl)=>C.AO ((bh&&decide (h<=s.size))&&(bl&&decide (l<=h))) (K (.p (.v (.string (s.extract l h)))))
    | _,_=>C.bad 49
   | _,_=>rK C 50 (lC P σ t d lo hi mx) K
def AWO (t:TypeId) (d i:D) (K:D->Prop):Prop :=
 match i,d,P.underlying t with
 | .p (.v (.int _ j)),.p (.v (.string s)),some .string=>C.byte s j λb=>K (.p (.v (.int .u8 b)))
 | _,_,_=>rK C 51 (G7 P t d i) K
def AZ7 (σ:Nat->Option bG) (t:TypeId) (x i:D) (ok:Bool) (K:D->Prop):Prop :=
 match P.underlying t with
 | some (.map kt et) =>
  match vO P kt,i,tz? P et with
  | some kd,.p (.v k),some z =>
   match C7 kd k,x with
   | true,.map m =>
    match σ m with
    | some (.map _ es)=>match BW P et,AC5 P et with
     | some ag,some r=>C.find kd k es ag r (K (match ok with|true=>J2 (.p (.v z)) (.v (.bool false))|false=>.p (.v z)))
       λ_ y=>K (match ok with|true=>.p (.b9 [aH ag r y,.v (.bool true)])|false=>.p (aH ag r y))
     | _,_=>C.bad 61
    | _=>C.bad 62
   | true,.p (.mp es)=>match BW P et,AC5 P et with
    | some ag,some r=>C.find kd k (rJ es) ag r (K (match ok with|true=>J2 (.p (.v z)) (.v (.bool false))|false=>.p (.v z)))
      λ_ y=>K (match ok with|true=>.p (.b9 [aH ag r y,.v (.bool true)])|false=>.p (aH ag r y))
    | _,_=>C.bad 66
   | _,_=>rK C 63 (wJ P σ t x i ok) K
  | _,_,_=>C.bad 64
 | _=>C.bad 65
def xH:Sy->Bool
 | .int _=>true
 | .bool=>true
 | .str=>true
 | .pr a b=>xH a&&xH b
 | _=>false
def A17 (fid:FuncId):Option Sh:=match P.funcs[fid]? with
 | some fn=>shL P fn.resultTypes.toList
 | none=>none
def AWQ (σ:Nat->Option bG) (n:Nat) (f:D) (args:List D) (K:D->Prop):Prop :=
 match jV f with
 | some (fid,a,b)=>match E fid,A17 P fid with
  | some (.pure g),some s=>match nM (a++args++b) with
   | some ts=>C.call s (g ts) λy=>K (.p (Sh.enc s y))
   | none=>match (a++args++b).mapM (iU σ 4),s.all (λx=>xH x.2) with
    | some ts,true=>C.call s (g ts) λy=>K (.p (Sh.enc s y))
    | _,_=>C.bad 71
  | some (.read g),some s=>C.call s (g (a++args++b) σ n) λy=>K (.p (Sh.enc s y))
  | some (.new g),some s=>match (a++args++b).mapM (iU σ 4) with
   | some ts=>C.call s (g ts) λy=>K (.p (Sh.enc s y))
   | none=>C.bad 74
  | some (.AOH g),some _=>match (a++args++b).mapM (iU σ 4) with
   | some ts=>C.opt (List (iII×Int)) (g ts) λes=>K (.p (.mp (bO es)))
   | none=>C.bad 75
  | some (.ext g),some s=>match nM (a++args++b) with
   | some ts=>C.call s (g ts) λy=>K (.p (Sh.enc s y))
   | none=>C.bad 76
  | _,_=>C.bad 72
 | none=>C.bad 73
def AHF (t:TypeId) (len cap:D) (K:D->Prop):Prop :=
 match mD P t with
 | some e =>
  match tsz? P e,tby? P e,tz? P e,len,cap with
  | some z,some by_,some zv,.p (.v (.int _ a)),.p (.v (.int _ b)) =>
   match decide (0<z)&&zv.cells.size == z&&zv.cells.all Value.oneCell' with
   | true=>C.AO (decide (a=b)&&decide (0<=b)&&decide (b*by_<=140737488355328)&&decide (b<=140737488355328)) (K (.p (.sl false (List.replicate a.toNat (zv.cells.toList.map .v)))))
   | false=>C.bad 18
  | _,_,_,_,_=>C.bad 19
 | none=>C.bad 20
def AFZ (σ:Nat->Option bG) (src dst:TypeId) (d:D) (K:D->Prop):Prop :=
 match d with
 | .own k=>match σ k,P.underlying src,P.underlying dst with
  | some (.arr _ z rows),some (.slice e),some .string=>match P.underlying e,decide (z=1) with
   | some (.int .u8),true=>C.dec (.int .u8) rows λxs=>C.AO (decide (0<rows.length)) (K (.p (.v (.string (strOfNums xs)))))
   | _,_=>C.bad 21
  | _,_,_=>C.bad 22
 | d=>rK C 83 (MU P src dst d) K
def UR (src dst:TypeId) (d:D) (K:D->Prop):Prop :=
 match d,P.underlying src,P.underlying dst with
 | .p (.v (.string s)),some .string,some (.slice e)=>match P.underlying e with
  | some (.int .u8)=>C.AO (decide (s.size<=140737488355328)) (K (.p (.sl false (u9 s))))
  | _=>C.bad 84
 | d,_,_=>rK C 82 (IX P src dst d) K
def AF0 (src dst:TypeId) (d:D) (K:D->Prop):Prop :=
 match d,P.underlying src,P.underlying dst with
 | .p (.sl fl rows),some (.slice e),some .string=>match P.underlying e with
  | some (.int .u8)=>C.dec (.int .u8) rows λxs=>K (.p (.v (.string (strOfNums xs))))
  | _=>C.bad 85
 | d,_,_=>UR C P src dst d K
def qvS (n:Nat) (σ:Nat->Option bG) (s₀ s:Nat->D) (op:Op) (K:D->Prop):Prop :=
 match op with
 | .indexAddr t x i=>BC7 C P σ t (ev s x) (ev s i) K
 | .makeSlice t l c=>AHF C P t (ev s l) (ev s c) K
 | .load t a=>AZ6 C P σ t (ev s a) K
 | .binOp op t x y _=>match Env.marked E 8000000000 with
  | true=>AIN C P op t (ev s x) (ev s y) K
  | false=>A5Q C P op t (ev s x) (ev s y) K
 | .slice t x lo hi mx=>AIP C P σ t (ev s x) (lo.map (ev s)) (hi.map (ev s)) (mx.map (ev s)) K
 | .index t x i=>AWO C P t (ev s x) (ev s i) K
 | .lookup t x i ok=>AZ7 C P σ t (ev s x) (ev s i) ok K
 | .convert src dst x=>match E.marked (6000000000+src) with
  | true=>AFZ C P σ src dst (ev s x) K
  | false=>match Env.marked E 8000000000 with
   | true=>AF0 C P src dst (ev s x) K
   | false=>UR C P src dst (ev s x) K
 | .call c=>match c.callee with
  | .value f=>AWQ C P E σ n (ev s f) (c.args.toList.map (ev s)) K
  | _=>rK C 81 (qv P E n σ s₀ s true op) K
 | op=>rK C 82 (qv P E n σ s₀ s true op) K
end
section
variable {P : Program} {E : Env}
variable {K:D->Prop}
def dG {c:Nat} {x:Option D} (h:rK oD c x K):∃ d,x=some d/\K d:=by
 unfold rK at h;split at h
 ·exact ⟨_,rfl,h⟩
 ·exact h.elim
def AQB (l:List T):SS (l.map .p) = .p (.agg l):=by unfold SS;rw[YX]
def B4 {j:Int} {K:Int->Prop}:∀ {n i:Nat},EM oD j K n i->∃ q,j=q/\K q
 | 0,_,h=>h.elim
 | n+1,i,h=>by
  unfold EM at h;cases hd:decide (j=Int.ofNat i) with
  | true=>rw[hd] at h;exact ⟨_,of_decide_eq_true hd,h⟩
  | false=>rw[hd] at h;exact B4 (n:=n) (i:=i+1) h
variable {σ:Nat->Option bG}
def APN {t:TypeId} {d i:D} (h:BC7 oD P σ t d i K):∃ r,cZ P σ t d i=some r/\K r:=by
 unfold BC7 at h;split at h
 ·rename_i kk j e he;split at h
  ·rename_i z r hz hr;split at h
   ·exact dG h
   split at h
   ·rename_i tt hw;have hw:r.w=z:=by simpa using hw
    split at h
    ·rename_i f rows hrows;obtain ⟨y,h0,h1,h2⟩:=h;refine ⟨_,?_,h2⟩;unfold cZ;have:¬ j<0:=by omega
     simp only[this,if_false,he,hz,hrows,h1,Sy.cY,hw,if_true]
    ·exact h.elim
   ·rename_i k hw;have hw:r.w=z:=by simpa using hw
    split at h
    ·rename_i ro zz rows hσ;obtain ⟨y,h0,h1,h2⟩:=h;refine ⟨_,?_,h2⟩;unfold cZ;have:¬ j<0:=by omega
     have hR:(σ k).bind dS=some (a6 rows):=by rw[hσ];rfl
     simp only[this,if_false,he,hz,hR,pRows_get?,h1,Option.map_some,ae,Sy.cY,hw,if_true]
    ·exact dG h
   ·rename_i k off len hw;have hw:r.w=z:=by simpa using hw
    split at h
    ·rename_i ro zz rows hσ;obtain ⟨hb,y,h0,h1,h2⟩:=h;simp only[ac,ah] at hb;refine ⟨_,?_,h2⟩;unfold cZ;have:¬ j<0:=by omega
     have hR:(σ k).bind dS=some (a6 rows):=by rw[hσ];rfl
     simp only[Int.toNat_natCast] at h1;simp only[this,if_false,he,hz,hb.2,if_true,hR,pRows_get?,h1,Option.map_some,ae,Sy.cY,hw,if_true]
    ·exact dG h
   ·exact h.elim
  ·exact h.elim
 ·split at h
  ·split at h
   ·obtain ⟨_,rfl,h⟩:=B4 h;exact dG h
   ·exact dG h
  ·exact dG h
 ·exact dG h
def AHC {t:TypeId} {d:D} (h:AZ6 oD P σ t d K):∃ r,uK P σ t d=some r/\K r:=by
 unfold AZ6 at h;split at h
 ·rename_i k i o;split at h
  ·rename_i ro zz rows hσ;split at h
   ·rename_i r ag n hr hag hn;split at h
    ·rename_i hw;simp only[ac,beq_iff_eq,Bool.or_eq_true] at hw;obtain ⟨row,y,h1,h2,h3,h4⟩:=h;refine ⟨_,?_,h4⟩;have hR:(σ k).bind dS=some (a6 rows):=by rw[hσ];rfl
     unfold uK;simp only[hag,hn,hR,pRows_get?,h1,Option.map_some];cases ag with
     | true =>
      have:o+n<=(row.map D.p).length:=by simp;omega
      simp only[if_true,this];rw[<-List.map_drop,<-List.map_take,<-hw.1,h3,AQB];rfl
     | false =>
      have hn1:n=1:=by simpa using hw.2
      have hw1:r.w=1:=by omega
      have hl:(r.enc y).length=1:=by rw[Sy.cY];exact hw1
      obtain ⟨x,hx⟩:=List.length_eq_one_iff.1 hl;have:row[o]? = some x:=by
       have h5:((row.drop o).take r.w)[0]? = some x:=by rw[h3,hx];rfl
       rw[hw1] at h5;simpa [List.getElem?_take,List.getElem?_drop] using h5
      simp only[Bool.false_eq_true,if_false,List.getElem?_map,this,Option.map_some,aH,hx,hdT]
    ·exact h.elim
   ·exact h.elim
  ·exact dG h
 ·exact dG h
variable {y:D}
def QY {op:BinOp} {t:TypeId} {x:D} (h:A5Q oD P op t x y K):∃ r,JU P op t x y=some r/\K r:=by
 unfold A5Q at h;split at h
 ·split at h
  ·rename_i k a k' b;split at h
   ·rename_i hk;have hk:=of_decide_eq_true hk;subst hk;obtain ⟨hb,h⟩:=h;have hb:¬ b=0:=by simpa using hb
    exact ⟨_,by simp[JU,BJ,QA,Y7,VK,hb],h⟩
   ·exact h.elim
  ·exact h.elim
 ·split at h
  ·rename_i k a k' b;split at h
   ·rename_i hk;have hk:=of_decide_eq_true hk;subst hk;obtain ⟨hb,h⟩:=h;have hb:¬ b=0:=by simpa using hb
    exact ⟨_,by simp[JU,BJ,QA,Y7,VK,hb],h⟩
   ·exact h.elim
  ·exact h.elim
 ·split at h
  ·rename_i a b;obtain ⟨hb,h⟩:=h;have hb:((a.size+b.size:Nat):Int)<=9223372036854775807:=of_decide_eq_true hb;exact ⟨_,by simp only[JU,BJ,QA,Y7,AJD,if_pos hb,Option.map_some],h⟩
  ·exact dG h
 ·exact dG h
def ACZ {op:BinOp} {t:TypeId} {x:D} (h:AIN oD P op t x y K):∃ r,JU P op t x y=some r/\K r:=by
 unfold AIN at h;split at h
 ·split at h
  ·rename_i k a k' b;obtain ⟨hb,h⟩:=h;rw[ac,ah,ah] at hb;exact ⟨_,by simp[JU,BJ,QA,Y7,hb],h⟩
  ·exact h.elim
 ·split at h
  ·rename_i k a k' b;obtain ⟨hb,h⟩:=h;rw[ac,ah,ah] at hb;exact ⟨_,by simp[JU,BJ,QA,Y7,hb],h⟩
  ·exact h.elim
 ·exact QY h
def gX {d:Option D} {dflt m hi:Nat} {b:Bool} (h:QB d dflt=some (m,b)) (hb:(b&&decide (m<=hi))=true):pM d dflt hi=some m:=by
 simp only[ac,ah] at hb;unfold QB at h;split at h
 ·cases h;simp[pM,hb.2]
 ·rename_i k i;cases h;have h0:0<=i:=of_decide_eq_true hb.1;have h1:i<=hi:=by have:=hb.2;omega
  simp[pM,h0,h1]
 ·cases h
def AC1 {t:TypeId} {d:D} {lo hi mx:Option D} (h:AIP oD P σ t d lo hi mx K):∃ r,lC P σ t d lo hi mx=some r/\K r:=by
 unfold AIP at h;split at h
 ·exact dG h
 ·split at h
  ·rename_i e he;split at h
   ·rename_i z hz;split at h
    ·rename_i tt;split at h
     ·rename_i full rows hrows;split at h
      ·rename_i hN bh lN bl h1 h2;obtain ⟨hb,h⟩:=h;rw[ac,ac] at hb;refine ⟨_,?_,h⟩;unfold lC;simp only[he,hz,hrows,hb.1.1,if_true,gX h1 hb.1.2,gX h2 hb.2]
      ·exact h.elim
     ·exact h.elim
    ·rename_i k;split at h
     ·rename_i ro zz rows hσ;split at h
      ·rename_i hN bh lN bl h1 h2;obtain ⟨hb,h⟩:=h;rw[ac] at hb;have hR:(σ k).bind dS=some (a6 rows):=by rw[hσ];rfl
       rw[rA] at h;by_cases heq:hN=lN
       ·refine ⟨_,?_,h.1 (by simpa using heq)⟩;unfold lC;simp only[he,hz,hR,bT,gX h1 hb.1,gX h2 hb.2];rw[if_pos heq]
       ·obtain ⟨hw,hk⟩:=h.2 (by simpa using heq);refine ⟨_,?_,hk⟩;unfold lC;simp only[he,hz,hR,bT,gX h1 hb.1,gX h2 hb.2];rw[if_neg heq,if_pos hw]
      ·exact h.elim
     ·exact dG h
    ·rename_i k off len;split at h
     ·rename_i hN bh lN bl h1 h2;obtain ⟨hb,h⟩:=h;rw[ac] at hb;rw[rA] at h;by_cases heq:hN=lN
      ·refine ⟨_,?_,h.1 (by simpa using heq)⟩;unfold lC;simp only[he,hz,gX h1 hb.1,gX h2 hb.2];rw[if_pos heq]
      ·obtain ⟨hw,hk⟩:=h.2 (by simpa using heq);refine ⟨_,?_,hk⟩;unfold lC;simp only[he,hz,gX h1 hb.1,gX h2 hb.2];rw[if_neg heq,if_pos hw]
     ·exact h.elim
    ·exact h.elim
   ·exact h.elim
  ·rename_i he;split at h
   ·rename_i s hu;split at h
    ·rename_i hN bh lN bl h1 h2;obtain ⟨hb,h⟩:=h;rw[ac] at hb;refine ⟨_,?_,h⟩;unfold lC;simp only[he,hu,gX h1 hb.1,gX h2 hb.2]
    ·exact h.elim
   ·exact dG h
def AFP {t:TypeId} {d i:D} (h:AWO oD P t d i K):∃ r,G7 P t d i=some r/\K r:=by
 unfold AWO at h;split at h
 ·rename_i kk j s hu;obtain ⟨b,h0,h1,h2⟩:=h;refine ⟨_,?_,h2⟩;unfold G7;have:¬ j<0:=by omega
  simp only[this,if_false,hu,h1,Option.map_some]
 ·exact dG h
def AHE {t:TypeId} {x i:D} {ok:Bool} (h:AZ7 oD P σ t x i ok K):∃ r,wJ P σ t x i ok=some r/\K r:=by
 unfold AZ7 at h;split at h
 ·rename_i kt et hu;split at h
  ·rename_i kd k z hk hz;split at h
   ·rename_i m hkey;split at h
    ·rename_i ro es hσ;split at h
     ·rename_i ag r hag hr;rcases h with ⟨h1,h2⟩|⟨i,y,h1,h2⟩
      ·refine ⟨_,?_,h2⟩;unfold wJ;simp only[hu,hk,hz,hkey,hσ,h1];cases ok<;>rfl
      ·refine ⟨_,?_,h2⟩;unfold wJ;simp only[hu,hk,hz,hkey,hσ,h1];cases ok<;>rfl
     ·exact h.elim
    ·exact h.elim
   ·rename_i es hkey;split at h
    ·rename_i ag r hag hr;rcases h with ⟨h1,h2⟩|⟨i,y,h1,h2⟩
     ·refine ⟨_,?_,h2⟩;unfold wJ;simp only[hu,hk,hz,hkey,h1];cases ok<;>rfl
     ·refine ⟨_,?_,h2⟩;unfold wJ;simp only[hu,hk,hz,hkey,h1];cases ok<;>rfl
    ·exact h.elim
   ·exact dG h
  ·exact h.elim
 ·exact h.elim
def vD:∀ (r:Sy),xH r=true->∀ (x:r.den) (n:Nat),(r.enc x).all (T.r6 n)=true
 | .int _,_,x,n=>by cases n<;>simp[Sy.enc,T.r6]
 | .bool,_,x,n=>by cases n<;>simp[Sy.enc,T.r6]
 | .str,_,x,n=>by cases n<;>simp[Sy.enc,T.r6]
 | .pr a b,h,x,n=>by
  simp only[xH,ac] at h;simp only[Sy.enc,List.all_append,ac];exact ⟨vD a h.1 x.1 n,vD b h.2 x.2 n⟩
def GP {ag:Bool} {r:Sy} (h:xH r=true) (x:r.den) (n:Nat):T.r6 (n+1) (aH ag r x)=true:=by
 have:=vD r h x (n+1);cases ag with
 | true=>exact vD r h x n
 | false =>
  simp only[aH];cases he:r.enc x with
  | nil=>rfl
  | cons a l=>rw[he] at this;simp only[List.all_cons,ac] at this;exact this.1
def Q8:∀ (s:Sh),s.all (λx=>xH x.2)=true->∀ (y:Sh.den s) (n:Nat),(Sh.l7 s y).all (T.r6 (n+1))=true
 | [],_,_,_=>rfl
 | [a],h,y,n=>by
  simp only[List.all_cons,List.all_nil,Bool.and_true] at h;simp only[Sh.l7,List.all_cons,List.all_nil,Bool.and_true];exact GP h y n
 | a::b::l,h,y,n=>by
  rw[List.all_cons,ac] at h;simp only[Sh.l7,List.all_cons,ac] at *;have:=Q8 (b::l) (by rw[List.all_cons,ac];exact h.2) y.2 n;exact ⟨GP h.1 y.1 n,this⟩
def A6A {s:Sh} (h:s.all (λx=>xH x.2)=true) (y:Sh.den s):(Sh.enc s y).flat=true:=by
 unfold T.flat
 match s,h,y with
 | [],h,y=>rfl
 | [a],h,y =>
  simp only[List.all_cons,List.all_nil,Bool.and_true] at h;exact GP h y 2
 | a::b::l,h,y=>exact Q8 (a::b::l) h y 1
def AFR {n:Nat} {f:D} {args:List D} (h:AWQ oD P E σ n f args K):∃ r,qQ E σ n f args=some r/\K r:=by
 unfold AWQ at h;split at h
 ·rename_i fid a b hc;split at h
  ·rename_i g s hE hs;split at h
   ·rename_i ts hts;obtain ⟨y,h1,h2⟩:=h;refine ⟨_,?_,h2⟩;unfold qQ;simp only[hc,hE,hts,h1,Option.map_some]
   ·rename_i hts;split at h
    ·rename_i ts hm hfl;obtain ⟨y,h1,h2⟩:=h;refine ⟨_,?_,h2⟩;unfold qQ;simp only[hc,hE,hts,hm,h1,A6A hfl y,if_true]
    ·exact h.elim
  ·rename_i g s hE hs;obtain ⟨y,h1,h2⟩:=h;refine ⟨_,?_,h2⟩;unfold qQ;simp only[hc,hE,h1,Option.map_some]
  ·rename_i g s hE hs;split at h
   ·rename_i ts hts;obtain ⟨y,h1,h2⟩:=h;refine ⟨_,?_,h2⟩;unfold qQ;simp only[hc,hE,hts,h1,Option.map_some]
   ·exact h.elim
  ·rename_i g s hE hs;split at h
   ·rename_i ts hts;obtain ⟨y,h1,h2⟩:=h;refine ⟨_,?_,h2⟩;unfold qQ;simp only[hc,hE,hts,h1,Option.map_some]
   ·exact h.elim
  ·rename_i g s hE hs;split at h
   ·rename_i ts hts;obtain ⟨y,h1,h2⟩:=h;refine ⟨_,?_,h2⟩;unfold qQ;simp only[hc,hE,hts,h1,Option.map_some]
   ·exact h.elim
  ·exact h.elim
 ·exact h.elim
def ABQ {t:TypeId} {a b:D} (h:AHF oD P t a b K):∃ d,ABP P t a b=some d/\K d:=by
 unfold AHF at h;split at h
 ·rename_i e he;split at h
  ·rename_i z by_ zv k1 x k2 y hz hby hzv;split at h
   ·rename_i hc;obtain ⟨hb,hk⟩:=h;refine ⟨_,?_,hk⟩;simp only[ABP,he,hz,hby,hzv,hc,hb,Bool.and_self]
   ·exact h.elim
  ·exact h.elim
 ·exact h.elim
def CO:∀ {rows:List (List T)} {xs:List Int},kF rows=xs.map (Sy.int .u8).enc->CN rows=some xs
 | [],[],_=>rfl
 | [],_::_,h=>by cases h
 | _::_,[],h=>by cases h
 | r::rows,n::xs,h=>by
  unfold kF at h;rw[List.map_cons,List.map_cons] at h;obtain ⟨h1,h2⟩:=List.cons.inj h;have ih:=CO (rows:=rows) (xs:=xs) h2
  match r,h1 with
  | [],h1=>cases h1
  | [t],h1 =>
   have h3:T.canon 0 t = .v (.int .u8 n):=(List.cons.inj h1).1;have e:t = .v (.int .u8 n):=by
    cases t with
    | v v =>
     unfold T.canon at h3;split at h3<;>first|exact h3|cases h3
    | _=>simp[T.canon] at h3
   subst e;simp only[CN,ih,Option.map_some]
  | _::_::_,h1=>cases (List.cons.inj h1).2
variable {src dst:TypeId}
def ZG {d:D} (h:AFZ oD P σ src dst d K):∃ r,Q1 P σ src dst d=some r/\K r:=by
 unfold AFZ at h;split at h
 ·split at h
  ·rename_i hσ hs hd;split at h
   ·rename_i he hz;obtain ⟨xs,hx,hb,hk⟩:=h;refine ⟨_,?_,hk⟩;simp only[Q1,hσ,hs,hd,he,CO hx];rw[if_pos ⟨of_decide_eq_true hz,of_decide_eq_true hb⟩]
   ·exact h.elim
  ·exact h.elim
 ·rename_i hn;obtain ⟨r,h1,h2⟩:=dG h;refine ⟨r,?_,h2⟩;unfold Q1;split
  ·exact absurd rfl (hn _)
  ·exact h1
def IY {d:D} (h:UR oD P src dst d K):∃ r,IX P src dst d=some r/\K r:=by
 unfold UR at h;split at h
 ·rename_i s e hs hd;split at h
  ·rename_i he;obtain ⟨hb,hk⟩:=h;refine ⟨_,?_,hk⟩;simp only[IX,MU,AJT,hs,hd,he,hb]
  ·exact h.elim
 ·exact dG h
def ZH {d:D} (h:AF0 oD P src dst d K):∃ r,IX P src dst d=some r/\K r:=by
 unfold AF0 at h;split at h
 ·rename_i fl rows e hs hd;split at h
  ·rename_i he;obtain ⟨xs,hx,hk⟩:=h;refine ⟨_,?_,hk⟩;simp only[IX,MU,fA,hs,hd,he,CO hx]
  ·exact h.elim
 ·exact IY h
def A1M {n:Nat} {s₀ s:Nat->D} {op:Op} (h:qvS oD P E n σ s₀ s op K):∃ d,qv P E n σ s₀ s true op=some d/\K d:=by
 unfold qvS at h;split at h
 ·exact APN h
 ·exact ABQ h
 ·exact AHC h
 ·split at h
  ·exact ACZ h
  ·exact QY h
 ·exact AC1 h
 ·exact AFP h
 ·exact AHE h
 ·rename_i src dst x;split at h
  ·rename_i hm;obtain ⟨d,h1,h2⟩:=ZG h;refine ⟨d,?_,h2⟩;simp only[qv,hm];exact h1
  ·rename_i hm;have h:∃ r,IX P src dst (ev s x)=some r/\K r:=by
    split at h
    ·exact ZH h
    ·exact IY h
   obtain ⟨d,h1,h2⟩:=h;refine ⟨d,?_,h2⟩;simp only[qv,hm];exact h1
 ·rename_i c;split at h
  ·rename_i f hf;obtain ⟨d,h1,h2⟩:=AFR h;refine ⟨d,?_,h2⟩;simp only[qv,hf];exact h1
  ·exact dG h
 ·exact dG h
end
end Go.Pv
