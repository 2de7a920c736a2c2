/-
  The symbolic executor, part b: operations.
-/
import Derived.Test.YtipdohmdckdoeaaGreatDoorVcka
set_option linter.defProp false
set_option linter.unusedSimpArgs false
namespace Go.Pv
open Go Go.RowKit
section
variable (C : Combs) (P : Program) (E : Env)
def sB (c:Nat) (x:Option D) (K:D->Prop):Prop:=match x with
 | some d=>K d
 | none=>C.bad c
def Sy.isAny:Sy->Bool
 | .any=>true
 | _=>false
def HG (j:Int) (K:Int->Prop):Nat->Nat->Prop
 | 0,_=>C.bad 18
 | n+1,i=>aC (decide (j=Int.ofNat i)) (K (Int.ofNat i)) (HG j K n (i+1))
def BJJ (σ:Nat->Option bJ) (t:TypeId) (d i:D) (K:D->Prop):Prop :=
 match i,mU P t with
 | .p (.v (.int _ j)),some e =>
  match tsz? P e,AH3 P e with
  | some z,some r =>
   match r.isAny with
   | true=>sB C 17 (dE P σ t d i) K
   | false =>
   match r.w == z,d with
   | true,.p tt=>match fO tt with
    | some (_,rows)=>C.rows r rows j λy=>K (.p (.ref (r.enc y)))
    | none=>C.bad 11
   | true,.own k=>match σ k with
    | some (.arr _ _ rows)=>C.rows r rows j λ_=>K (.ptr k j.toNat 0)
    | _=>sB C 12 (dE P σ t d i) K
   | true,.bs k off len=>match σ k with
    | some (.arr _ _ rows)=>C.B4 (decide (0<=j)&&decide (j.toNat<len)) (C.rows r rows (off+j.toNat:Nat) λ_=>K (.ptr k (off+j.toNat) 0))
    | _=>sB C 13 (dE P σ t d i) K
   | _,_=>C.bad 14
  | _,_=>C.bad 15
 | .p (.v (.int kk j)),none=>match AD3 P t with
  | some (m,_)=>match decide (m<=8) with
   | true=>HG C j (λj=>sB C 19 (dE P σ t d (.p (.v (.int kk j)))) K) m 0
   | false=>sB C 16 (dE P σ t d i) K
  | none=>sB C 16 (dE P σ t d i) K
 | _,_=>sB C 16 (dE P σ t d i) K
def A6H (σ:Nat->Option bJ) (t:TypeId) (d:D) (K:D->Prop):Prop :=
 match d with
 | .ptr k i o=>match σ k with
  | some (.arr _ _ rows)=>match AH3 P t,DW P t,tsz? P t with
   | some r,some ag,some n=>match r.w == n&&(ag||n == 1) with
    | true=>C.part r rows i o λy=>K (.p (aG ag r y))
    | false=>C.bad 21
   | _,_,_=>C.bad 22
  | _=>sB C 23 (vF P σ t d) K
 | _=>sB C 24 (vF P σ t d) K
def BCA (op:BinOp) (t:TypeId) (x y:D) (K:D->Prop):Prop :=
 match op with
 | .quo=>match x,y with
  | .p (.v (.int k a)),.p (.v (.int k' b))=>match decide (k=k') with
   | true=>C.B4 (!decide (b=0)) (K (.p (.v (.int k (k.wrap (a.tdiv b))))))
   | false=>C.bad 31
  | _,_=>C.bad 32
 | .rem=>match x,y with
  | .p (.v (.int k a)),.p (.v (.int k' b))=>match decide (k=k') with
   | true=>C.B4 (!decide (b=0)) (K (.p (.v (.int k (a.tmod b)))))
   | false=>C.bad 33
  | _,_=>C.bad 34
 | .add=>match x,y with
  | .p (.v (.string a)),.p (.v (.string b))=>C.B4 (decide (((a.size+b.size:Nat):Int)<=9223372036854775807)) (K (.p (.v (.string (a++b)))))
  | _,_=>sB C 35 (NX P .add t x y) K
 | op=>sB C 36 (NX P op t x y) K
def AN3 (op:BinOp) (t:TypeId) (x y:D) (K:D->Prop):Prop :=
 match op with
 | .shl=>match x,y with
  | .p (.v (.int k a)),.p (.v (.int _ b))=>C.B4 (decide (0<=b)&&decide (b<=k.bits)) (K (.p (.v (.int k (k.wrap (a*2 ^ b.toNat))))))
  | _,_=>C.bad 37
 | .shr=>match x,y with
  | .p (.v (.int k a)),.p (.v (.int _ b))=>C.B4 (decide (0<=b)&&decide (b<=k.bits)) (K (.p (.v (.int k (a / 2 ^ b.toNat)))))
  | _,_=>C.bad 38
 | op=>BCA C P op t x y K
def UY (d:Option D) (dflt:Nat):Option (Nat×Bool):=match d with
 | none=>some (dflt,true)
 | some (.p (.v (.int _ i)))=>some (i.toNat,decide (0<=i))
 | _=>none
def AN5 (σ:Nat->Option bJ) (t:TypeId) (d:D) (lo hi mx:Option D) (K:D->Prop):Prop :=
 match mx with
 | some _=>sB C 41 (lU P σ t d lo hi mx) K
 | none=>match mU P t with
  | some e=>match tsz? P e with
   | some z=>match d with
    | .p tt=>match fO tt with
     | some (full,rows)=>match UY hi rows.length,UY lo 0 with
      | some (h,bh),some (l,bl)=>C.B4 (jQ z rows&&(bh&&decide (h<=rows.length))&&(bl&&decide (l<=h))) (K (.p (.sl (full&&decide (h=rows.length)) ((rows.take h).drop l))))
      | _,_=>C.bad 42
     | none=>C.bad 43
    | .own k=>match σ k with
     | some (.arr _ _ rows)=>match UY hi rows.length,UY lo 0 with
      | some (h,bh),some (l,bl)=>C.B4 ((bh&&decide (h<=rows.length))&&(bl&&decide (l<=h))) (aC (decide (h=l)) (K (.p (.sl false []))) (C.B4 (lI σ k z) (K (.bs k l (h-l)))))
      | _,_=>C.bad 44
     | _=>sB C 45 (lU P σ t d lo hi mx) K
    | .bs k off len=>match UY hi len,UY lo 0 with
     | some (h,bh),some (l,bl)=>C.B4 ((bh&&decide (h<=len))&&(bl&&decide (l<=h))) (aC (decide (h=l)) (K (.p (.sl false []))) (C.B4 (lI σ k z) (K (.bs k (off+l) (h-l)))))
     | _,_=>C.bad 46
    | _=>C.bad 47
   | none=>C.bad 48
  | none=>match P.underlying t,d with
   | some .string,.p (.v (.string s))=>match UY hi s.size,UY lo 0 with
    | some (h,bh),some (l,bl)=>C.B4 ((bh&&decide (h<=s.size))&&(bl&&decide (l<=h))) (K (.p (.v (.string (s.extract l h)))))
    | _,_=>C.bad 49
   | _,_=>sB C 50 (lU P σ t d lo hi mx) K
def A2V (t:TypeId) (d i:D) (K:D->Prop):Prop :=
 match i,d,P.underlying t with
 | .p (.v (.int _ j)),.p (.v (.string s)),some .string=>C.byte s j λb=>K (.p (.v (.int .u8 b)))
 | _,_,_=>sB C 51 (KU P t d i) K
def A6I (σ:Nat->Option bJ) (t:TypeId) (x i:D) (ok:Bool) (K:D->Prop):Prop :=
 match P.underlying t with
 | some (.map kt et) =>
  match wT P kt,i,tz? P et with
  | some kd,.p (.v k),some z =>
   match FF kd k,x with
   | true,.map m =>
    match σ m with
    | some (.map _ es)=>match DW P et,AH3 P et with
     | some ag,some r=>C.find kd k es ag r (K (match ok with|true=>N5 (.p (.v z)) (.v (.bool false))|false=>.p (.v z)))
       λ_ y=>K (match ok with|true=>.p (.cE [aG ag r y,.v (.bool true)])|false=>.p (aG ag r y))
     | _,_=>C.bad 61
    | _=>C.bad 62
   | true,.p (.mp es)=>match DW P et,AH3 P et with
    | some ag,some r=>C.find kd k (sA es) ag r (K (match ok with|true=>N5 (.p (.v z)) (.v (.bool false))|false=>.p (.v z)))
      λ_ y=>K (match ok with|true=>.p (.cE [aG ag r y,.v (.bool true)])|false=>.p (aG ag r y))
    | _,_=>C.bad 66
   | _,_=>sB C 63 (xQ P σ t x i ok) K
  | _,_,_=>C.bad 64
 | _=>C.bad 65
def yR:Sy->Bool
 | .int _=>true
 | .bool=>true
 | .str=>true
 | .pr a b=>yR a&&yR b
 | _=>false
def A8M (fid:FuncId):Option Sh:=match P.funcs[fid]? with
 | some fn=>shL P fn.resultTypes.toList
 | none=>none
def A2X (σ:Nat->Option bJ) (n:Nat) (f:D) (args:List D) (K:D->Prop):Prop :=
 match kE f with
 | some (fid,a,b)=>match E fid,A8M P fid with
  | some (.pure g),some s=>match oD (a++args++b) with
   | some ts=>C.call s (g ts) λy=>K (.p (Sh.enc s y))
   | none=>match (a++args++b).mapM (jI σ 4),s.all (λx=>yR x.2) with
    | some ts,true=>C.call s (g ts) λy=>K (.p (Sh.enc s y))
    | _,_=>C.bad 71
  | some (.read g),some s=>C.call s (g (a++args++b) σ n) λy=>K (.p (Sh.enc s y))
  | some (.new g),some s=>match (a++args++b).mapM (jI σ 4) with
   | some ts=>C.call s (g ts) λy=>K (.p (Sh.enc s y))
   | none=>C.bad 74
  | some (.AT3 g),some _=>match (a++args++b).mapM (jI σ 4) with
   | some ts=>C.opt (List (iII×Int)) (g ts) λes=>K (.p (.mp (bS es)))
   | none=>C.bad 75
  | some (.ext g),some s=>match oD (a++args++b) with
   | some ts=>C.call s (g ts) λy=>K (.p (Sh.enc s y))
   | none=>C.bad 76
  | _,_=>C.bad 72
 | none=>C.bad 73
def AMR (t:TypeId) (len cap:D) (K:D->Prop):Prop :=
 match mU P t with
 | some e =>
  match tsz? P e,tby? P e,tz? P e,len,cap with
  | some z,some by_,some zv,.p (.v (.int _ a)),.p (.v (.int _ b)) =>
   match decide (0<z)&&zv.cells.size == z&&zv.cells.all Value.oneCell' with
   | true=>C.B4 (decide (a=b)&&decide (0<=b)&&decide (b*by_<=140737488355328)&&decide (b<=140737488355328)) (K (.p (.sl false (List.replicate a.toNat (zv.cells.toList.map .v)))))
   | false=>C.bad 18
  | _,_,_,_,_=>C.bad 19
 | none=>C.bad 20
def AK7 (σ:Nat->Option bJ) (src dst:TypeId) (d:D) (K:D->Prop):Prop :=
 match d with
 | .own k=>match σ k,P.underlying src,P.underlying dst with
  | some (.arr _ z rows),some (.slice e),some .string=>match P.underlying e,decide (z=1) with
   | some (.int .u8),true=>C.dec (.int .u8) rows λxs=>C.B4 (decide (0<rows.length)) (K (.p (.v (.string (strOfNums xs)))))
   | _,_=>C.bad 21
  | _,_,_=>C.bad 22
 | d=>sB C 83 (QY P src dst d) K
def Z4 (src dst:TypeId) (d:D) (K:D->Prop):Prop :=
 match d,P.underlying src,P.underlying dst with
 | .p (.v (.string s)),some .string,some (.slice e)=>match P.underlying e with
  | some (.int .u8)=>C.B4 (decide (s.size<=140737488355328)) (K (.p (.sl false (wB s))))
  | _=>C.bad 84
 | d,_,_=>sB C 82 (MV P src dst d) K
def AK8 (src dst:TypeId) (d:D) (K:D->Prop):Prop :=
 match d,P.underlying src,P.underlying dst with
 | .p (.sl fl rows),some (.slice e),some .string=>match P.underlying e with
  | some (.int .u8)=>C.dec (.int .u8) rows λxs=>K (.p (.v (.string (strOfNums xs))))
  | _=>C.bad 85
 | d,_,_=>Z4 C P src dst d K
def qvS (n:Nat) (σ:Nat->Option bJ) (s₀ s:Nat->D) (op:Op) (K:D->Prop):Prop :=
 match op with
 | .indexAddr t x i=>BJJ C P σ t (ev s x) (ev s i) K
 | .makeSlice t l c=>AMR C P t (ev s l) (ev s c) K
 | .load t a=>A6H C P σ t (ev s a) K
 | .binOp op t x y _=>match Env.marked E 8000000000 with
  | true=>AN3 C P op t (ev s x) (ev s y) K
  | false=>BCA C P op t (ev s x) (ev s y) K
 | .slice t x lo hi mx=>AN5 C P σ t (ev s x) (lo.map (ev s)) (hi.map (ev s)) (mx.map (ev s)) K
 | .index t x i=>A2V C P t (ev s x) (ev s i) K
 | .lookup t x i ok=>A6I C P σ t (ev s x) (ev s i) ok K
 | .convert src dst x=>match E.marked (6000000000+src) with
  | true=>AK7 C P σ src dst (ev s x) K
  | false=>match Env.marked E 8000000000 with
   | true=>AK8 C P src dst (ev s x) K
   | false=>Z4 C P src dst (ev s x) K
 | .call c=>match c.callee with
  | .value f=>A2X C P E σ n (ev s f) (c.args.toList.map (ev s)) K
  | _=>sB C 81 (qv P E n σ s₀ s true op) K
 | op=>sB C 82 (qv P E n σ s₀ s true op) K
end
section
variable {P : Program} {E : Env}
variable {K:D->Prop}
def dM {c:Nat} {x:Option D} (h:sB oV c x K):∃ d,x=some d/\K d:=by
 unfold sB at h;split at h
 ·exact ⟨_,rfl,h⟩
 ·exact h.elim
def AV2 (l:List T):XK (l.map .p) = .p (.agg l):=by unfold XK;rw[ADW]
def D7 {j:Int} {K:Int->Prop}:∀ {n i:Nat},HG oV j K n i->∃ q,j=q/\K q
 | 0,_,h=>h.elim
 | n+1,i,h=>by
  unfold HG at h;cases hd:decide (j=Int.ofNat i) with
  | true=>rw[hd] at h;exact ⟨_,of_decide_eq_true hd,h⟩
  | false=>rw[hd] at h;exact D7 (n:=n) (i:=i+1) h
variable {σ:Nat->Option bJ}
def AVE {t:TypeId} {d i:D} (h:BJJ oV P σ t d i K):∃ r,dE P σ t d i=some r/\K r:=by
 unfold BJJ at h;split at h
 ·rename_i kk j e he;split at h
  ·rename_i z r hz hr;split at h
   ·exact dM h
   split at h
   ·rename_i tt hw;have hw:r.w=z:=by simpa using hw
    split at h
    ·rename_i f rows hrows;obtain ⟨y,h0,h1,h2⟩:=h;refine ⟨_,?_,h2⟩;unfold dE;have:¬ j<0:=by omega
     simp only[this,if_false,he,hz,hrows,h1,Sy.dD,hw,if_true]
    ·exact h.elim
   ·rename_i k hw;have hw:r.w=z:=by simpa using hw
    split at h
    ·rename_i ro zz rows hσ;obtain ⟨y,h0,h1,h2⟩:=h;refine ⟨_,?_,h2⟩;unfold dE;have:¬ j<0:=by omega
     have hR:(σ k).bind eG=some (a7 rows):=by rw[hσ];rfl
     simp only[this,if_false,he,hz,hR,pRows_get?,h1,Option.map_some,ae,Sy.dD,hw,if_true]
    ·exact dM h
   ·rename_i k off len hw;have hw:r.w=z:=by simpa using hw
    split at h
    ·rename_i ro zz rows hσ;obtain ⟨hb,y,h0,h1,h2⟩:=h;simp only[ac,ah] at hb;refine ⟨_,?_,h2⟩;unfold dE;have:¬ j<0:=by omega
     have hR:(σ k).bind eG=some (a7 rows):=by rw[hσ];rfl
     simp only[Int.toNat_natCast] at h1;simp only[this,if_false,he,hz,hb.2,if_true,hR,pRows_get?,h1,Option.map_some,ae,Sy.dD,hw,if_true]
    ·exact dM h
   ·exact h.elim
  ·exact h.elim
 ·split at h
  ·split at h
   ·obtain ⟨_,rfl,h⟩:=D7 h;exact dM h
   ·exact dM h
  ·exact dM h
 ·exact dM h
def AMO {t:TypeId} {d:D} (h:A6H oV P σ t d K):∃ r,vF P σ t d=some r/\K r:=by
 unfold A6H at h;split at h
 ·rename_i k i o;split at h
  ·rename_i ro zz rows hσ;split at h
   ·rename_i r ag n hr hag hn;split at h
    ·rename_i hw;simp only[ac,beq_iff_eq,Bool.or_eq_true] at hw;obtain ⟨row,y,h1,h2,h3,h4⟩:=h;refine ⟨_,?_,h4⟩;have hR:(σ k).bind eG=some (a7 rows):=by rw[hσ];rfl
     unfold vF;simp only[hag,hn,hR,pRows_get?,h1,Option.map_some];cases ag with
     | true =>
      have:o+n<=(row.map D.p).length:=by simp;omega
      simp only[if_true,this];rw[<-List.map_drop,<-List.map_take,<-hw.1,h3,AV2];rfl
     | false =>
      have hn1:n=1:=by simpa using hw.2
      have hw1:r.w=1:=by omega
      have hl:(r.enc y).length=1:=by rw[Sy.dD];exact hw1
      obtain ⟨x,hx⟩:=List.length_eq_one_iff.1 hl;have:row[o]? = some x:=by
       have h5:((row.drop o).take r.w)[0]? = some x:=by rw[h3,hx];rfl
       rw[hw1] at h5;simpa [List.getElem?_take,List.getElem?_drop] using h5
      simp only[Bool.false_eq_true,if_false,List.getElem?_map,this,Option.map_some,aG,hx,hdT]
    ·exact h.elim
   ·exact h.elim
  ·exact dM h
 ·exact dM h
variable {y:D}
def VO {op:BinOp} {t:TypeId} {x:D} (h:BCA oV P op t x y K):∃ r,NX P op t x y=some r/\K r:=by
 unfold BCA at h;split at h
 ·split at h
  ·rename_i k a k' b;split at h
   ·rename_i hk;have hk:=of_decide_eq_true hk;subst hk;obtain ⟨hb,h⟩:=h;have hb:¬ b=0:=by simpa using hb
    exact ⟨_,by simp[NX,CV,UX,AD5,AAZ,hb],h⟩
   ·exact h.elim
  ·exact h.elim
 ·split at h
  ·rename_i k a k' b;split at h
   ·rename_i hk;have hk:=of_decide_eq_true hk;subst hk;obtain ⟨hb,h⟩:=h;have hb:¬ b=0:=by simpa using hb
    exact ⟨_,by simp[NX,CV,UX,AD5,AAZ,hb],h⟩
   ·exact h.elim
  ·exact h.elim
 ·split at h
  ·rename_i a b;obtain ⟨hb,h⟩:=h;have hb:((a.size+b.size:Nat):Int)<=9223372036854775807:=of_decide_eq_true hb;exact ⟨_,by simp only[NX,CV,UX,AD5,AOT,if_pos hb,Option.map_some],h⟩
  ·exact dM h
 ·exact dM h
def AHX {op:BinOp} {t:TypeId} {x:D} (h:AN3 oV P op t x y K):∃ r,NX P op t x y=some r/\K r:=by
 unfold AN3 at h;split at h
 ·split at h
  ·rename_i k a k' b;obtain ⟨hb,h⟩:=h;rw[ac,ah,ah] at hb;exact ⟨_,by simp[NX,CV,UX,AD5,hb],h⟩
  ·exact h.elim
 ·split at h
  ·rename_i k a k' b;obtain ⟨hb,h⟩:=h;rw[ac,ah,ah] at hb;exact ⟨_,by simp[NX,CV,UX,AD5,hb],h⟩
  ·exact h.elim
 ·exact VO h
def iJ {d:Option D} {dflt m hi:Nat} {b:Bool} (h:UY d dflt=some (m,b)) (hb:(b&&decide (m<=hi))=true):qH d dflt hi=some m:=by
 simp only[ac,ah] at hb;unfold UY at h;split at h
 ·cases h;simp[qH,hb.2]
 ·rename_i k i;cases h;have h0:0<=i:=of_decide_eq_true hb.1;have h1:i<=hi:=by have:=hb.2;omega
  simp[qH,h0,h1]
 ·cases h
def AHZ {t:TypeId} {d:D} {lo hi mx:Option D} (h:AN5 oV P σ t d lo hi mx K):∃ r,lU P σ t d lo hi mx=some r/\K r:=by
 unfold AN5 at h;split at h
 ·exact dM h
 ·split at h
  ·rename_i e he;split at h
   ·rename_i z hz;split at h
    ·rename_i tt;split at h
     ·rename_i full rows hrows;split at h
      ·rename_i hN bh lN bl h1 h2;obtain ⟨hb,h⟩:=h;rw[ac,ac] at hb;refine ⟨_,?_,h⟩;unfold lU;simp only[he,hz,hrows,hb.1.1,if_true,iJ h1 hb.1.2,iJ h2 hb.2]
      ·exact h.elim
     ·exact h.elim
    ·rename_i k;split at h
     ·rename_i ro zz rows hσ;split at h
      ·rename_i hN bh lN bl h1 h2;obtain ⟨hb,h⟩:=h;rw[ac] at hb;have hR:(σ k).bind eG=some (a7 rows):=by rw[hσ];rfl
       rw[rW] at h;by_cases heq:hN=lN
       ·refine ⟨_,?_,h.1 (by simpa using heq)⟩;unfold lU;simp only[he,hz,hR,bV,iJ h1 hb.1,iJ h2 hb.2];rw[if_pos heq]
       ·obtain ⟨hw,hk⟩:=h.2 (by simpa using heq);refine ⟨_,?_,hk⟩;unfold lU;simp only[he,hz,hR,bV,iJ h1 hb.1,iJ h2 hb.2];rw[if_neg heq,if_pos hw]
      ·exact h.elim
     ·exact dM h
    ·rename_i k off len;split at h
     ·rename_i hN bh lN bl h1 h2;obtain ⟨hb,h⟩:=h;rw[ac] at hb;rw[rW] at h;by_cases heq:hN=lN
      ·refine ⟨_,?_,h.1 (by simpa using heq)⟩;unfold lU;simp only[he,hz,iJ h1 hb.1,iJ h2 hb.2];rw[if_pos heq]
      ·obtain ⟨hw,hk⟩:=h.2 (by simpa using heq);refine ⟨_,?_,hk⟩;unfold lU;simp only[he,hz,iJ h1 hb.1,iJ h2 hb.2];rw[if_neg heq,if_pos hw]
     ·exact h.elim
    ·exact h.elim
   ·exact h.elim
  ·rename_i he;split at h
   ·rename_i s hu;split at h
    ·rename_i hN bh lN bl h1 h2;obtain ⟨hb,h⟩:=h;rw[ac] at hb;refine ⟨_,?_,h⟩;unfold lU;simp only[he,hu,iJ h1 hb.1,iJ h2 hb.2]
    ·exact h.elim
   ·exact dM h
def AKX {t:TypeId} {d i:D} (h:A2V oV P t d i K):∃ r,KU P t d i=some r/\K r:=by
 unfold A2V at h;split at h
 ·rename_i kk j s hu;obtain ⟨b,h0,h1,h2⟩:=h;refine ⟨_,?_,h2⟩;unfold KU;have:¬ j<0:=by omega
  simp only[this,if_false,hu,h1,Option.map_some]
 ·exact dM h
def AMQ {t:TypeId} {x i:D} {ok:Bool} (h:A6I oV P σ t x i ok K):∃ r,xQ P σ t x i ok=some r/\K r:=by
 unfold A6I at h;split at h
 ·rename_i kt et hu;split at h
  ·rename_i kd k z hk hz;split at h
   ·rename_i m hkey;split at h
    ·rename_i ro es hσ;split at h
     ·rename_i ag r hag hr;rcases h with ⟨h1,h2⟩|⟨i,y,h1,h2⟩
      ·refine ⟨_,?_,h2⟩;unfold xQ;simp only[hu,hk,hz,hkey,hσ,h1];cases ok<;>rfl
      ·refine ⟨_,?_,h2⟩;unfold xQ;simp only[hu,hk,hz,hkey,hσ,h1];cases ok<;>rfl
     ·exact h.elim
    ·exact h.elim
   ·rename_i es hkey;split at h
    ·rename_i ag r hag hr;rcases h with ⟨h1,h2⟩|⟨i,y,h1,h2⟩
     ·refine ⟨_,?_,h2⟩;unfold xQ;simp only[hu,hk,hz,hkey,h1];cases ok<;>rfl
     ·refine ⟨_,?_,h2⟩;unfold xQ;simp only[hu,hk,hz,hkey,h1];cases ok<;>rfl
    ·exact h.elim
   ·exact dM h
  ·exact h.elim
 ·exact h.elim
def wG:∀ (r:Sy),yR r=true->∀ (x:r.den) (n:Nat),(r.enc x).all (T.sU n)=true
 | .int _,_,x,n=>by cases n<;>simp[Sy.enc,T.sU]
 | .bool,_,x,n=>by cases n<;>simp[Sy.enc,T.sU]
 | .str,_,x,n=>by cases n<;>simp[Sy.enc,T.sU]
 | .pr a b,h,x,n=>by
  simp only[yR,ac] at h;simp only[Sy.enc,List.all_append,ac];exact ⟨wG a h.1 x.1 n,wG b h.2 x.2 n⟩
def KB {ag:Bool} {r:Sy} (h:yR r=true) (x:r.den) (n:Nat):T.sU (n+1) (aG ag r x)=true:=by
 have:=wG r h x (n+1);cases ag with
 | true=>exact wG r h x n
 | false =>
  simp only[aG];cases he:r.enc x with
  | nil=>rfl
  | cons a l=>rw[he] at this;simp only[List.all_cons,ac] at this;exact this.1
def VX:∀ (s:Sh),s.all (λx=>yR x.2)=true->∀ (y:Sh.den s) (n:Nat),(Sh.mP s y).all (T.sU (n+1))=true
 | [],_,_,_=>rfl
 | [a],h,y,n=>by
  simp only[List.all_cons,List.all_nil,Bool.and_true] at h;simp only[Sh.mP,List.all_cons,List.all_nil,Bool.and_true];exact KB h y n
 | a::b::l,h,y,n=>by
  rw[List.all_cons,ac] at h;simp only[Sh.mP,List.all_cons,ac] at *;have:=VX (b::l) (by rw[List.all_cons,ac];exact h.2) y.2 n;exact ⟨KB h.1 y.1 n,this⟩
def BCV {s:Sh} (h:s.all (λx=>yR x.2)=true) (y:Sh.den s):(Sh.enc s y).flat=true:=by
 unfold T.flat
 match s,h,y with
 | [],h,y=>rfl
 | [a],h,y =>
  simp only[List.all_cons,List.all_nil,Bool.and_true] at h;exact KB h y 2
 | a::b::l,h,y=>exact VX (a::b::l) h y 1
def AKZ {n:Nat} {f:D} {args:List D} (h:A2X oV P E σ n f args K):∃ r,rK E σ n f args=some r/\K r:=by
 unfold A2X at h;split at h
 ·rename_i fid a b hc;split at h
  ·rename_i g s hE hs;split at h
   ·rename_i ts hts;obtain ⟨y,h1,h2⟩:=h;refine ⟨_,?_,h2⟩;unfold rK;simp only[hc,hE,hts,h1,Option.map_some]
   ·rename_i hts;split at h
    ·rename_i ts hm hfl;obtain ⟨y,h1,h2⟩:=h;refine ⟨_,?_,h2⟩;unfold rK;simp only[hc,hE,hts,hm,h1,BCV hfl y,if_true]
    ·exact h.elim
  ·rename_i g s hE hs;obtain ⟨y,h1,h2⟩:=h;refine ⟨_,?_,h2⟩;unfold rK;simp only[hc,hE,h1,Option.map_some]
  ·rename_i g s hE hs;split at h
   ·rename_i ts hts;obtain ⟨y,h1,h2⟩:=h;refine ⟨_,?_,h2⟩;unfold rK;simp only[hc,hE,hts,h1,Option.map_some]
   ·exact h.elim
  ·rename_i g s hE hs;split at h
   ·rename_i ts hts;obtain ⟨y,h1,h2⟩:=h;refine ⟨_,?_,h2⟩;unfold rK;simp only[hc,hE,hts,h1,Option.map_some]
   ·exact h.elim
  ·rename_i g s hE hs;split at h
   ·rename_i ts hts;obtain ⟨y,h1,h2⟩:=h;refine ⟨_,?_,h2⟩;unfold rK;simp only[hc,hE,hts,h1,Option.map_some]
   ·exact h.elim
  ·exact h.elim
 ·exact h.elim
def AGP {t:TypeId} {a b:D} (h:AMR oV P t a b K):∃ d,AGO P t a b=some d/\K d:=by
 unfold AMR at h;split at h
 ·rename_i e he;split at h
  ·rename_i z by_ zv k1 x k2 y hz hby hzv;split at h
   ·rename_i hc;obtain ⟨hb,hk⟩:=h;refine ⟨_,?_,hk⟩;simp only[AGO,he,hz,hby,hzv,hc,hb,Bool.and_self]
   ·exact h.elim
  ·exact h.elim
 ·exact h.elim
def ET:∀ {rows:List (List T)} {xs:List Int},kX rows=xs.map (Sy.int .u8).enc->ES rows=some xs
 | [],[],_=>rfl
 | [],_::_,h=>by cases h
 | _::_,[],h=>by cases h
 | r::rows,n::xs,h=>by
  unfold kX at h;rw[List.map_cons,List.map_cons] at h;obtain ⟨h1,h2⟩:=List.cons.inj h;have ih:=ET (rows:=rows) (xs:=xs) h2
  match r,h1 with
  | [],h1=>cases h1
  | [t],h1 =>
   have h3:T.canon 0 t = .v (.int .u8 n):=(List.cons.inj h1).1;have e:t = .v (.int .u8 n):=by
    cases t with
    | v v =>
     unfold T.canon at h3;split at h3<;>first|exact h3|cases h3
    | _=>simp[T.canon] at h3
   subst e;simp only[ES,ih,Option.map_some]
  | _::_::_,h1=>cases (List.cons.inj h1).2
variable {src dst:TypeId}
def AEE {d:D} (h:AK7 oV P σ src dst d K):∃ r,VR P σ src dst d=some r/\K r:=by
 unfold AK7 at h;split at h
 ·split at h
  ·rename_i hσ hs hd;split at h
   ·rename_i he hz;obtain ⟨xs,hx,hb,hk⟩:=h;refine ⟨_,?_,hk⟩;simp only[VR,hσ,hs,hd,he,ET hx];rw[if_pos ⟨of_decide_eq_true hz,of_decide_eq_true hb⟩]
   ·exact h.elim
  ·exact h.elim
 ·rename_i hn;obtain ⟨r,h1,h2⟩:=dM h;refine ⟨r,?_,h2⟩;unfold VR;split
  ·exact absurd rfl (hn _)
  ·exact h1
def MW {d:D} (h:Z4 oV P src dst d K):∃ r,MV P src dst d=some r/\K r:=by
 unfold Z4 at h;split at h
 ·rename_i s e hs hd;split at h
  ·rename_i he;obtain ⟨hb,hk⟩:=h;refine ⟨_,?_,hk⟩;simp only[MV,QY,APB,hs,hd,he,hb]
  ·exact h.elim
 ·exact dM h
def AEF {d:D} (h:AK8 oV P src dst d K):∃ r,MV P src dst d=some r/\K r:=by
 unfold AK8 at h;split at h
 ·rename_i fl rows e hs hd;split at h
  ·rename_i he;obtain ⟨xs,hx,hk⟩:=h;refine ⟨_,?_,hk⟩;simp only[MV,QY,fO,hs,hd,he,ET hx]
  ·exact h.elim
 ·exact MW h
def A71 {n:Nat} {s₀ s:Nat->D} {op:Op} (h:qvS oV P E n σ s₀ s op K):∃ d,qv P E n σ s₀ s true op=some d/\K d:=by
 unfold qvS at h;split at h
 ·exact AVE h
 ·exact AGP h
 ·exact AMO h
 ·split at h
  ·exact AHX h
  ·exact VO h
 ·exact AHZ h
 ·exact AKX h
 ·exact AMQ h
 ·rename_i src dst x;split at h
  ·rename_i hm;obtain ⟨d,h1,h2⟩:=AEE h;refine ⟨d,?_,h2⟩;simp only[qv,hm];exact h1
  ·rename_i hm;have h:∃ r,MV P src dst (ev s x)=some r/\K r:=by
    split at h
    ·exact AEF h
    ·exact MW h
   obtain ⟨d,h1,h2⟩:=h;refine ⟨d,?_,h2⟩;simp only[qv,hm];exact h1
 ·rename_i c;split at h
  ·rename_i f hf;obtain ⟨d,h1,h2⟩:=AKZ h;refine ⟨d,?_,h2⟩;simp only[qv,hf];exact h1
  ·exact dM h
 ·exact dM h
end
end Go.Pv
