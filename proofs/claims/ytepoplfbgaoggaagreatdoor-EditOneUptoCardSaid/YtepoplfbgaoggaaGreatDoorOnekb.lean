/-
  The symbolic executor, part b: operations.
-/
import Derived.Test.YtepoplfbgaoggaaGreatDoorOneka
set_option linter.defProp false
set_option linter.unusedSimpArgs false
namespace Go.Pv
open Go Go.RowKit
section
variable (C : Combs) (P : Program) (E : Env)
def wP (c:Nat) (x:Option D) (K:D->Prop):Prop:=match x with
 | some d=>K d
 | none=>C.bad c
def Sy.isAny:Sy->Bool
 | .any=>true
 | _=>false
def IA (j:Int) (K:Int->Prop):Nat->Nat->Prop
 | 0,_=>C.bad 18
 | n+1,i=>aE (decide (j=Int.ofNat i)) (K (Int.ofNat i)) (IA j K n (i+1))
def BOD (σ:Nat->Option bL) (t:TypeId) (d i:D) (K:D->Prop):Prop :=
 match i,pM P t with
 | .p (.v (.int _ j)),some e =>
  match tsz? P e,AT9 P e with
  | some z,some r =>
   match r.isAny with
   | true=>wP C 17 (dY P σ t d i) K
   | false =>
   match r.w == z,d with
   | true,.p tt=>match gP tt with
    | some (_,rows)=>C.rows r rows j λy=>K (.p (.ref (r.enc y)))
    | none=>C.bad 11
   | true,.own k=>match σ k with
    | some (.arr _ _ rows)=>C.rows r rows j λ_=>K (.ptr k j.toNat 0)
    | _=>wP C 12 (dY P σ t d i) K
   | true,.bs k off len=>match σ k with
    | some (.arr _ _ rows)=>C.PW (decide (0<=j)&&decide (j.toNat<len)) (C.rows r rows (off+j.toNat:Nat) λ_=>K (.ptr k (off+j.toNat) 0))
    | _=>wP C 13 (dY P σ t d i) K
   | _,_=>C.bad 14
  | _,_=>C.bad 15
 | .p (.v (.int kk j)),none=>match AH9 P t with
  | some (m,_)=>match decide (m<=8) with
   | true=>IA C j (λj=>wP C 19 (dY P σ t d (.p (.v (.int kk j)))) K) m 0
   | false=>wP C 16 (dY P σ t d i) K
  | none=>wP C 16 (dY P σ t d i) K
 | _,_=>wP C 16 (dY P σ t d i) K
def BBR (σ:Nat->Option bL) (t:TypeId) (d:D) (K:D->Prop):Prop :=
 match d with
 | .ptr k i o=>match σ k with
  | some (.arr _ _ rows)=>match AT9 P t,EA P t,tsz? P t with
   | some r,some ag,some n=>match r.w == n&&(ag||n == 1) with
    | true=>C.part r rows i o λy=>K (.p (aH ag r y))
    | false=>C.bad 21
   | _,_,_=>C.bad 22
  | _=>wP C 23 (BL P σ t d) K
 | _=>wP C 24 (BL P σ t d) K
def BMJ (op:BinOp) (t:TypeId) (x y:D) (K:D->Prop):Prop :=
 match op with
 | .quo=>match x,y with
  | .p (.v (.int k a)),.p (.v (.int k' b))=>match decide (k=k') with
   | true=>C.PW (!decide (b=0)) (K (.p (.v (.int k (k.wrap (a.tdiv b))))))
   | false=>C.bad 31
  | _,_=>C.bad 32
 | .rem=>match x,y with
  | .p (.v (.int k a)),.p (.v (.int k' b))=>match decide (k=k') with
   | true=>C.PW (!decide (b=0)) (K (.p (.v (.int k (a.tmod b)))))
   | false=>C.bad 33
  | _,_=>C.bad 34
 | .add=>match x,y with
  | .p (.v (.string a)),.p (.v (.string b))=>C.PW (decide (((a.size+b.size:Nat):Int)<=9223372036854775807)) (K (.p (.v (.string (a++b)))))
  | _,_=>wP C 35 (ACS P .add t x y) K
 | op=>wP C 36 (ACS P op t x y) K
def YE (d:Option D) (dflt:Nat):Option (Nat×Bool):=match d with
 | none=>some (dflt,true)
 | some (.p (.v (.int _ i)))=>some (i.toNat,decide (0<=i))
 | _=>none
def BSN (z:Nat):List (List T)->Bool
 | r::_=>decide (r.length=z)
 | []=>false
def ATK (σ:Nat->Option bL) (t:TypeId) (d:D) (lo hi mx:Option D) (K:D->Prop):Prop :=
 match mx with
 | some _=>wP C 41 (lU P σ t d lo hi mx) K
 | none=>match pM P t with
  | some e=>match tsz? P e with
   | some z=>match d with
    | .p tt=>match gP tt with
     | some (full,rows)=>match YE hi rows.length,YE lo 0 with
      | some (h,bh),some (l,bl)=>C.PW (MR z rows&&(bh&&decide (h<=rows.length))&&(bl&&decide (l<=h))) (K (.p (.sl (full&&decide (h=rows.length)) ((rows.take h).drop l))))
      | _,_=>C.bad 42
     | none=>C.bad 43
    | .own k=>match σ k with
     | some (.arr _ _ rows)=>match YE hi rows.length,YE lo 0 with
      | some (h,bh),some (l,bl)=>C.PW ((bh&&decide (h<=rows.length))&&(bl&&decide (l<=h))) (aE (decide (h=l)) (K (.p (.sl false []))) (C.PW (BSN z rows) (K (.bs k l (h-l)))))
      | _,_=>C.bad 44
     | _=>wP C 45 (lU P σ t d lo hi mx) K
    | .bs k off len=>match YE hi len,YE lo 0 with
     | some (h,bh),some (l,bl)=>C.PW ((bh&&decide (h<=len))&&(bl&&decide (l<=h))) (aE (decide (h=l)) (K (.p (.sl false []))) (C.PW (kF σ k z) (K (.bs k (off+l) (h-l)))))
     | _,_=>C.bad 46
    | _=>C.bad 47
   | none=>C.bad 48
  | none=>match P.underlying t,d with
   | some .string,.p (.v (.string s))=>match YE hi s.size,YE lo 0 with
    | some (h,bh),some (l,bl)=>C.PW ((bh&&decide (h<=s.size))&&(bl&&decide (l<=h))) (K (.p (.v (.string (s.extract l h)))))
    | _,_=>C.bad 49
   | _,_=>wP C 50 (lU P σ t d lo hi mx) K
def A7R (t:TypeId) (d i:D) (K:D->Prop):Prop :=
 match i,d,P.underlying t with
 | .p (.v (.int _ j)),.p (.v (.string s)),some .string=>C.byte s j λb=>K (.p (.v (.int .u8 b)))
 | _,_,_=>wP C 51 (L5 P t d i) K
def BBS (σ:Nat->Option bL) (t:TypeId) (x i:D) (ok:Bool) (K:D->Prop):Prop :=
 match P.underlying t with
 | some (.map kt et) =>
  match C1 P kt,i,tz? P et with
  | some kd,.p (.v k),some z =>
   match L8 kd k,x with
   | true,.map m =>
    match σ m with
    | some (.map _ es)=>match EA P et,AT9 P et with
     | some ag,some r=>C.find kd k es ag r (K (match ok with|true=>YT (.p (.v z)) (.v (.bool false))|false=>.p (.v z)))
       λ_ y=>K (match ok with|true=>.p (.cB [aH ag r y,.v (.bool true)])|false=>.p (aH ag r y))
     | _,_=>C.bad 61
    | _=>C.bad 62
   | true,.p (.mp es)=>match EA P et,AT9 P et with
    | some ag,some r=>C.find kd k (s0 es) ag r (K (match ok with|true=>YT (.p (.v z)) (.v (.bool false))|false=>.p (.v z)))
      λ_ y=>K (match ok with|true=>.p (.cB [aH ag r y,.v (.bool true)])|false=>.p (aH ag r y))
    | _,_=>C.bad 66
   | _,_=>wP C 63 (zH P σ t x i ok) K
  | _,_,_=>C.bad 64
 | _=>C.bad 65
def AK:Sy->Bool
 | .int _=>true
 | .bool=>true
 | .str=>true
 | .pr a b=>AK a&&AK b
 | _=>false
def BLS (fid:FuncId):Option Sh:=match P.funcs[fid]? with
 | some fn=>shL P fn.resultTypes.toList
 | none=>none
def A7T (σ:Nat->Option bL) (n:Nat) (f:D) (args:List D) (K:D->Prop):Prop :=
 match lC f with
 | some (fid,a,b)=>match E fid,BLS P fid with
  | some (.pure g),some s=>match qU (a++args++b) with
   | some ts=>C.call s (g ts) λy=>K (.p (Sh.enc s y))
   | none=>match (a++args++b).mapM (j1 σ 4),s.all (λx=>AK x.2) with
    | some ts,true=>C.call s (g ts) λy=>K (.p (Sh.enc s y))
    | _,_=>C.bad 71
  | some (.read g),some s=>C.call s (g (a++args++b) σ n) λy=>K (.p (Sh.enc s y))
  | some (.new g),some s=>match (a++args++b).mapM (j1 σ 4) with
   | some ts=>C.call s (g ts) λy=>K (.p (Sh.enc s y))
   | none=>C.bad 74
  | some (.AZ1 g),some _=>match (a++args++b).mapM (j1 σ 4) with
   | some ts=>C.opt (List (iII×Int)) (g ts) λes=>K (.p (.mp (bQ es)))
   | none=>C.bad 75
  | some (.ext g),some s=>match qU (a++args++b) with
   | some ts=>C.call s (g ts) λy=>K (.p (Sh.enc s y))
   | none=>C.bad 76
  | _,_=>C.bad 72
 | none=>C.bad 73
def ARY (t:TypeId) (len cap:D) (K:D->Prop):Prop :=
 match pM P t with
 | some e =>
  match tsz? P e,tby? P e,tz? P e,len,cap with
  | some z,some by_,some zv,.p (.v (.int _ a)),.p (.v (.int _ b)) =>
   match decide (0<z)&&zv.cells.size == z&&zv.cells.all Value.oneCell' with
   | true=>C.PW (decide (a=b)&&decide (0<=b)&&decide (b*by_<=140737488355328)&&decide (b<=140737488355328)) (K (.p (.sl false (List.replicate a.toNat (zv.cells.toList.map .v)))))
   | false=>C.bad 18
  | _,_,_,_,_=>C.bad 19
 | none=>C.bad 20
def qvS (n:Nat) (σ:Nat->Option bL) (s₀ s:Nat->D) (op:Op) (K:D->Prop):Prop :=
 match op with
 | .indexAddr t x i=>BOD C P σ t (ev s x) (ev s i) K
 | .makeSlice t l c=>ARY C P t (ev s l) (ev s c) K
 | .load t a=>BBR C P σ t (ev s a) K
 | .binOp op t x y _=>BMJ C P op t (ev s x) (ev s y) K
 | .slice t x lo hi mx=>ATK C P σ t (ev s x) (lo.map (ev s)) (hi.map (ev s)) (mx.map (ev s)) K
 | .index t x i=>A7R C P t (ev s x) (ev s i) K
 | .lookup t x i ok=>BBS C P σ t (ev s x) (ev s i) ok K
 | .call c=>match c.callee with
  | .value f=>A7T C P E σ n (ev s f) (c.args.toList.map (ev s)) K
  | _=>wP C 81 (qv P E n σ s₀ s true op) K
 | op=>wP C 82 (qv P E n σ s₀ s true op) K
end
section
variable {P : Program} {E : Env}
variable {K:D->Prop}
def eK {c:Nat} {x:Option D} (h:wP tE c x K):∃ d,x=some d/\K d:=by
 unfold wP at h;split at h
 ·simp_all
 ·exact h.elim
def A1Z (l:List T):Z4 (l.map .p) = .p (.agg l):=by unfold Z4;rw[AH1]
def EI {j:Int} {K:Int->Prop}:∀ {n i:Nat},IA tE j K n i->∃ q,j=q/\K q
 | 0,_,h=>h.elim
 | n+1,i,h=>by
  unfold IA at h;cases hd:decide (j=Int.ofNat i) with
  | true=>rw[hd] at h;exact ⟨_,of_decide_eq_true hd,h⟩
  | false=>rw[hd] at h;exact EI (n:=n) (i:=i+1) h
variable {σ:Nat->Option bL}
def A1K {t:TypeId} {d i:D} (h:BOD tE P σ t d i K):∃ r,dY P σ t d i=some r/\K r:=by
 unfold BOD at h;split at h
 ·rename_i kk j e he;split at h
  ·rename_i z r hz hr;split at h
   ·exact eK h
   split at h
   ·rename_i tt hw;have hw:r.w=z:=by simpa using hw
    split at h
    ·rename_i f rows hrows;obtain ⟨y,h0,h1,h2⟩:=h;refine ⟨_,?_,h2⟩;unfold dY;have:¬ j<0:=by omega
     simp only[this,if_false,he,hz,hrows,h1,Sy.dV,hw,if_true]
    ·exact h.elim
   ·rename_i k hw;have hw:r.w=z:=by simpa using hw
    split at h
    ·rename_i ro zz rows hσ;obtain ⟨y,h0,h1,h2⟩:=h;refine ⟨_,?_,h2⟩;unfold dY;have:¬ j<0:=by omega
     have hR:(σ k).bind fJ=some (bK rows):=by rw[hσ];rfl
     simp only[this,if_false,he,hz,hR,pRows_get?,h1,Option.map_some,ae,Sy.dV,hw,if_true]
    ·exact eK h
   ·rename_i k off len hw;have hw:r.w=z:=by simpa using hw
    split at h
    ·rename_i ro zz rows hσ;obtain ⟨hb,y,h0,h1,h2⟩:=h;simp only[ac,ah] at hb;refine ⟨_,?_,h2⟩;unfold dY;have:¬ j<0:=by omega
     have hR:(σ k).bind fJ=some (bK rows):=by rw[hσ];rfl
     simp only[Int.toNat_natCast] at h1;simp only[this,if_false,he,hz,hb.2,if_true,hR,pRows_get?,h1,Option.map_some,ae,Sy.dV,hw,if_true]
    ·exact eK h
   ·exact h.elim
  ·exact h.elim
 ·split at h
  ·split at h
   ·obtain ⟨_,rfl,h⟩:=EI h;exact eK h
   ·exact eK h
  ·exact eK h
 ·exact eK h
def ARV {t:TypeId} {d:D} (h:BBR tE P σ t d K):∃ r,BL P σ t d=some r/\K r:=by
 unfold BBR at h;split at h
 ·rename_i k i o;split at h
  ·rename_i ro zz rows hσ;split at h
   ·rename_i r ag n hr hag hn;split at h
    ·rename_i hw;simp only[ac,beq_iff_eq,Bool.or_eq_true] at hw;obtain ⟨row,y,h1,h2,h3,h4⟩:=h;refine ⟨_,?_,h4⟩;have hR:(σ k).bind fJ=some (bK rows):=by rw[hσ];rfl
     unfold BL;simp only[hag,hn,hR,pRows_get?,h1,Option.map_some];cases ag with
     | true =>
      have:o+n<=(row.map D.p).length:=by simp;omega
      simp only[if_true,this];rw[<-List.map_drop,<-List.map_take,<-hw.1,h3,A1Z];rfl
     | false =>
      have hn1:n=1:=by simpa using hw.2
      have hw1:r.w=1:=by omega
      have hl:(r.enc y).length=1:=by rw[Sy.dV];exact hw1
      obtain ⟨x,hx⟩:=List.length_eq_one_iff.1 hl;have:row[o]? = some x:=by
       have h5:((row.drop o).take r.w)[0]? = some x:=by rw[h3,hx];rfl
       rw[hw1] at h5;simpa [List.getElem?_take,List.getElem?_drop] using h5
      simp only[Bool.false_eq_true,if_false,List.getElem?_map,this,Option.map_some,aH,hx,hdT]
    ·exact h.elim
   ·exact h.elim
  ·exact eK h
 ·exact eK h
def AZE {op:BinOp} {t:TypeId} {x y:D} (h:BMJ tE P op t x y K):∃ r,ACS P op t x y=some r/\K r:=by
 unfold BMJ at h;split at h
 ·split at h
  ·rename_i k a k' b;split at h
   ·rename_i hk;have hk:=of_decide_eq_true hk;subst hk;obtain ⟨hb,h⟩:=h;have hb:¬ b=0:=by simpa using hb
    exact ⟨_,by simp[ACS,G7,AID,AZF,AEA,hb],h⟩
   ·exact h.elim
  ·exact h.elim
 ·split at h
  ·rename_i k a k' b;split at h
   ·rename_i hk;have hk:=of_decide_eq_true hk;subst hk;obtain ⟨hb,h⟩:=h;have hb:¬ b=0:=by simpa using hb
    exact ⟨_,by simp[ACS,G7,AID,AZF,AEA,hb],h⟩
   ·exact h.elim
  ·exact h.elim
 ·split at h
  ·rename_i a b;obtain ⟨hb,h⟩:=h;have hb:((a.size+b.size:Nat):Int)<=9223372036854775807:=of_decide_eq_true hb;exact ⟨_,by simp only[ACS,G7,AID,AZF,AT7,if_pos hb,Option.map_some],h⟩
  ·exact eK h
 ·exact eK h
def iJ {d:Option D} {dflt m hi:Nat} {b:Bool} (h:YE d dflt=some (m,b)) (hb:(b&&decide (m<=hi))=true):qW d dflt hi=some m:=by
 simp only[ac,ah] at hb;unfold YE at h;split at h
 ·cases h;simp[qW,hb.2]
 ·rename_i k i;cases h;have h0:0<=i:=of_decide_eq_true hb.1;have h1:i<=hi:=by have:=hb.2;omega
  simp[qW,h0,h1]
 ·cases h
def AM1 {t:TypeId} {d:D} {lo hi mx:Option D} (h:ATK tE P σ t d lo hi mx K):∃ r,lU P σ t d lo hi mx=some r/\K r:=by
 unfold ATK at h;split at h
 ·exact eK h
 ·split at h
  ·rename_i e he;split at h
   ·rename_i z hz;split at h
    ·split at h
     ·rename_i full rows hrows;split at h
      ·rename_i hN bh lN bl h1 h2;obtain ⟨hb,h⟩:=h;rw[ac,ac] at hb;refine ⟨_,?_,h⟩;unfold lU;simp only[he,hz,hrows,hb.1.1,if_true,iJ h1 hb.1.2,iJ h2 hb.2]
      ·exact h.elim
     ·exact h.elim
    ·rename_i k;split at h
     ·rename_i ro zz rows hσ;split at h
      ·rename_i hN bh lN bl h1 h2;obtain ⟨hb,h⟩:=h;rw[ac] at hb;have hR:(σ k).bind fJ=some (bK rows):=by rw[hσ];rfl
       rw[wN] at h;by_cases heq:hN=lN
       ·refine ⟨_,?_,h.1 (by simpa using heq)⟩;unfold lU;simp only[he,hz,hR,dL,iJ h1 hb.1,iJ h2 hb.2];rw[if_pos heq]
       ·obtain ⟨hw,hk⟩:=h.2 (by simpa using heq);have hw:kF σ k z=true:=by
         unfold kF;rw[hR];cases rows with
         | nil=>cases hw
         | cons r l=>simpa [bK,BSN] using hw
        refine ⟨_,?_,hk⟩;unfold lU;simp only[he,hz,hR,dL,iJ h1 hb.1,iJ h2 hb.2];rw[if_neg heq,if_pos hw]
      ·exact h.elim
     ·exact eK h
    ·split at h
     ·rename_i hN bh lN bl h1 h2;obtain ⟨hb,h⟩:=h;rw[ac] at hb;rw[wN] at h;by_cases heq:hN=lN
      ·refine ⟨_,?_,h.1 (by simpa using heq)⟩;unfold lU;simp only[he,hz,iJ h1 hb.1,iJ h2 hb.2];rw[if_pos heq]
      ·obtain ⟨hw,hk⟩:=h.2 (by simpa using heq);refine ⟨_,?_,hk⟩;unfold lU;simp only[he,hz,iJ h1 hb.1,iJ h2 hb.2];rw[if_neg heq,if_pos hw]
     ·exact h.elim
    ·exact h.elim
   ·exact h.elim
  ·rename_i he;split at h
   ·rename_i s hu;split at h
    ·rename_i hN bh lN bl h1 h2;obtain ⟨hb,h⟩:=h;rw[ac] at hb;refine ⟨_,?_,h⟩;unfold lU;simp only[he,hu,iJ h1 hb.1,iJ h2 hb.2]
    ·exact h.elim
   ·exact eK h
def APO {t:TypeId} {d i:D} (h:A7R tE P t d i K):∃ r,L5 P t d i=some r/\K r:=by
 unfold A7R at h;split at h
 ·obtain ⟨b,h0,h1,h2⟩:=h;unfold L5;simp_all
 ·exact eK h
def ARX {t:TypeId} {x i:D} {ok:Bool} (h:BBS tE P σ t x i ok K):∃ r,zH P σ t x i ok=some r/\K r:=by
 unfold BBS at h;split at h
 ·rename_i kt et hu;split at h
  ·rename_i kd k z hk hz;split at h
   ·rename_i m hkey;split at h
    ·rename_i ro es hσ;split at h
     ·rcases h with ⟨h1,h2⟩|⟨i,y,h1,h2⟩
      ·refine ⟨_,?_,h2⟩;unfold zH;simp only[hu,hk,hz,hkey,hσ,h1];cases ok<;>rfl
      ·refine ⟨_,?_,h2⟩;unfold zH;simp only[hu,hk,hz,hkey,hσ,h1];cases ok<;>rfl
     ·exact h.elim
    ·exact h.elim
   ·rename_i es hkey;split at h
    ·rcases h with ⟨h1,h2⟩|⟨i,y,h1,h2⟩
     ·refine ⟨_,?_,h2⟩;unfold zH;simp only[hu,hk,hz,hkey,h1];cases ok<;>rfl
     ·refine ⟨_,?_,h2⟩;unfold zH;simp only[hu,hk,hz,hkey,h1];cases ok<;>rfl
    ·exact h.elim
   ·exact eK h
  ·exact h.elim
 ·exact h.elim
def xP:∀ (r:Sy),AK r=true->∀ (x:r.den) (n:Nat),(r.enc x).all (T.zG n)=true
 | .int _,_,x,n=>by cases n<;>simp[Sy.enc,T.zG]
 | .bool,_,x,n=>by cases n<;>simp[Sy.enc,T.zG]
 | .str,_,x,n=>by cases n<;>simp[Sy.enc,T.zG]
 | .pr a b,h,x,n=>by
  simp only[AK,ac] at h;simp only[Sy.enc,List.all_append,ac];exact ⟨xP a h.1 x.1 n,xP b h.2 x.2 n⟩
def LP {ag:Bool} {r:Sy} (h:AK r=true) (x:r.den) (n:Nat):T.zG (n+1) (aH ag r x)=true:=by
 have:=xP r h x (n+1);cases ag with
 | true=>exact xP r h x n
 | false =>
  simp only[aH];cases he:r.enc x with
  | nil=>rfl
  | cons a l=>rw[he] at this;simp only[List.all_cons,ac] at this;exact this.1
def Y8:∀ (s:Sh),s.all (λx=>AK x.2)=true->∀ (y:Sh.den s) (n:Nat),(Sh.lD s y).all (T.zG (n+1))=true
 | [],_,_,_=>rfl
 | [a],h,y,n=>by
  simp only[List.all_cons,List.all_nil,Bool.and_true] at h;simp only[Sh.lD,List.all_cons,List.all_nil,Bool.and_true];exact LP h y n
 | a::b::l,h,y,n=>by
  simp only[Sh.lD,List.all_cons,ac] at *;have:=Y8 (b::l) (by rw[List.all_cons,ac];exact h.2) y.2 n;exact ⟨LP h.1 y.1 n,this⟩
def BHV {s:Sh} (h:s.all (λx=>AK x.2)=true) (y:Sh.den s):(Sh.enc s y).flat=true:=by
 match s,h,y with
 | [],h,y=>rfl
 | [a],h,y =>
  simp only[List.all_cons,List.all_nil,Bool.and_true] at h;exact LP h y 2
 | a::b::l,h,y=>exact Y8 (a::b::l) h y 1
def APQ {n:Nat} {f:D} {args:List D} (h:A7T tE P E σ n f args K):∃ r,rY E σ n f args=some r/\K r:=by
 unfold A7T at h;split at h
 ·rename_i fid a b hc;split at h
  ·rename_i g s hE hs;split at h
   ·obtain ⟨y,h1,h2⟩:=h;unfold rY;simp_all
   ·rename_i hts;split at h
    ·rename_i ts hm hfl;obtain ⟨y,h1,h2⟩:=h;refine ⟨_,?_,h2⟩;unfold rY;simp only[hc,hE,hts,hm,h1,BHV hfl y,if_true]
    ·exact h.elim
  ·obtain ⟨y,h1,h2⟩:=h;unfold rY;simp_all
  ·split at h
   ·obtain ⟨y,h1,h2⟩:=h;unfold rY;simp_all
   ·exact h.elim
  ·split at h
   ·obtain ⟨y,h1,h2⟩:=h;unfold rY;simp_all
   ·exact h.elim
  ·split at h
   ·obtain ⟨y,h1,h2⟩:=h;unfold rY;simp_all
   ·exact h.elim
  ·exact h.elim
 ·exact h.elim
def ALH {t:TypeId} {a b:D} (h:ARY tE P t a b K):∃ d,ALG P t a b=some d/\K d:=by
 unfold ARY at h;split at h
 ·rename_i e he;split at h
  ·rename_i z by_ zv k1 x k2 y hz hby hzv;split at h
   ·rename_i hc;obtain ⟨hb,hk⟩:=h;refine ⟨_,?_,hk⟩;simp only[ALG,he,hz,hby,hzv,hc,hb,Bool.and_self]
   ·exact h.elim
  ·exact h.elim
 ·exact h.elim
def BDL {n:Nat} {s₀ s:Nat->D} {op:Op} (h:qvS tE P E n σ s₀ s op K):∃ d,qv P E n σ s₀ s true op=some d/\K d:=by
 unfold qvS at h;split at h
 ·exact A1K h
 ·exact ALH h
 ·exact ARV h
 ·exact AZE h
 ·exact AM1 h
 ·exact APO h
 ·exact ARX h
 ·split at h
  ·rename_i f hf;obtain ⟨d,h1,h2⟩:=APQ h;refine ⟨d,?_,h2⟩;simp only[qv,hf];exact h1
  ·exact eK h
 ·exact eK h
end
end Go.Pv
