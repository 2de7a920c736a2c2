/-
  The symbolic executor, part b: operations.
-/
import Derived.Test.YtjledgajjgkbhaaGreatDoorVapka
set_option linter.defProp false
set_option linter.unusedSimpArgs false
namespace Go.Pv
open Go Go.RowKit
section
variable (C : Combs) (P : Program) (E : Env)
def q8 (c:Nat) (x:Option D) (K:D→Prop):Prop:=match x with
 | some d=>K d
 | none=>C.bad c
def Sy.isAny:Sy→Bool
 | .any=>true
 | _=>false
def EZ (j:Int) (K:Int→Prop):Nat→Nat→Prop
 | 0,_=>C.bad 18
 | n+1,i=>aD (decide (j=Int.ofNat i)) (K (Int.ofNat i)) (EZ j K n (i+1))
def BAZ (σ:Nat→Option bB) (t:TypeId) (d i:D) (K:D→Prop):Prop :=
 match i,l6 P t with
 | .p (.v (.int _ j)),some e =>
  match tsz? P e,YQ P e with
  | some z,some r =>
   match r.isAny with
   | true=>q8 C 17 (dN P σ t d i) K
   | false =>
   match r.w == z,d with
   | true,.p tt=>match fK tt with
    | some (_,rows)=>C.rows r rows j fun y=>K (.p (.ref (r.enc y)))
    | none=>C.bad 11
   | true,.own k=>match σ k with
    | some (.arr _ _ rows)=>C.rows r rows j fun _=>K (.ptr k j.toNat 0)
    | _=>q8 C 12 (dN P σ t d i) K
   | true,.bs k off len=>match σ k with
    | some (.arr _ _ rows)=>C.yJ (decide (0≤j)&&decide (j.toNat<len)) (C.rows r rows (off+j.toNat:Nat) fun _=>K (.ptr k (off+j.toNat) 0))
    | _=>q8 C 13 (dN P σ t d i) K
   | _,_=>C.bad 14
  | _,_=>C.bad 15
 | .p (.v (.int kk j)),none=>match AAG P t with
  | some (m,_)=>match decide (m≤8) with
   | true=>EZ C j (fun j=>q8 C 19 (dN P σ t d (.p (.v (.int kk j)))) K) m 0
   | false=>q8 C 16 (dN P σ t d i) K
  | none=>q8 C 16 (dN P σ t d i) K
 | _,_=>q8 C 16 (dN P σ t d i) K
def AZ4 (σ:Nat→Option bB) (t:TypeId) (d:D) (K:D→Prop):Prop :=
 match d with
 | .ptr k i o=>match σ k with
  | some (.arr _ _ rows)=>match YQ P t,AX P t,tsz? P t with
   | some r,some ag,some n=>match r.w == n&&(ag||n == 1) with
    | true=>C.part r rows i o fun y=>K (.p (aF ag r y))
    | false=>C.bad 21
   | _,_,_=>C.bad 22
  | _=>q8 C 23 (yB P σ t d) K
 | _=>q8 C 24 (yB P σ t d) K
def A4J (op:BinOp) (t:TypeId) (x y:D) (K:D→Prop):Prop :=
 match op with
 | .quo=>match x,y with
  | .p (.v (.int k a)),.p (.v (.int k' b))=>match decide (k=k') with
   | true=>C.yJ (!decide (b=0)) (K (.p (.v (.int k (k.wrap (a.tdiv b))))))
   | false=>C.bad 31
  | _,_=>C.bad 32
 | .rem=>match x,y with
  | .p (.v (.int k a)),.p (.v (.int k' b))=>match decide (k=k') with
   | true=>C.yJ (!decide (b=0)) (K (.p (.v (.int k (a.tmod b)))))
   | false=>C.bad 33
  | _,_=>C.bad 34
 | .add=>match x,y with
  | .p (.v (.string a)),.p (.v (.string b))=>C.yJ (decide (((a.size+b.size:Nat):Int)≤9223372036854775807)) (K (.p (.v (.string (a++b)))))
  | _,_=>q8 C 35 (J9 P .add t x y) K
 | op=>q8 C 36 (J9 P op t x y) K
def AJ7 (op:BinOp) (t:TypeId) (x y:D) (K:D→Prop):Prop :=
 match op with
 | .shl=>match x,y with
  | .p (.v (.int k a)),.p (.v (.int _ b))=>C.yJ (decide (0≤b)&&decide (b≤k.bits)) (K (.p (.v (.int k (k.wrap (a*2 ^ b.toNat))))))
  | _,_=>C.bad 37
 | .shr=>match x,y with
  | .p (.v (.int k a)),.p (.v (.int _ b))=>C.yJ (decide (0≤b)&&decide (b≤k.bits)) (K (.p (.v (.int k (a / 2 ^ b.toNat)))))
  | _,_=>C.bad 38
 | op=>A4J C P op t x y K
def Q5 (d:Option D) (dflt:Nat):Option (Nat×Bool):=match d with
 | none=>some (dflt,true)
 | some (.p (.v (.int _ i)))=>some (i.toNat,decide (0≤i))
 | _=>none
def A60 (z:Nat):List (List T)→Bool
 | r::_=>decide (r.length=z)
 | []=>false
def AJ9 (σ:Nat→Option bB) (t:TypeId) (d:D) (lo hi mx:Option D) (K:D→Prop):Prop :=
 match mx with
 | some _=>q8 C 41 (kW P σ t d lo hi mx) K
 | none=>match l6 P t with
  | some e=>match tsz? P e with
   | some z=>match d with
    | .p tt=>match fK tt with
     | some (full,rows)=>match Q5 hi rows.length,Q5 lo 0 with
      | some (h,bh),some (l,bl)=>C.yJ (H6 z rows&&(bh&&decide (h≤rows.length))&&(bl&&decide (l≤h))) (K (.p (.sl (full&&decide (h=rows.length)) ((rows.take h).drop l))))
      | _,_=>C.bad 42
     | none=>C.bad 43
    | .own k=>match σ k with
     | some (.arr _ _ rows)=>match Q5 hi rows.length,Q5 lo 0 with
      | some (h,bh),some (l,bl)=>C.yJ ((bh&&decide (h≤rows.length))&&(bl&&decide (l≤h))) (aD (decide (h=l)) (K (.p (.sl false []))) (C.yJ (A60 z rows) (K (.bs k l (h-l)))))
      | _,_=>C.bad 44
     | _=>q8 C 45 (kW P σ t d lo hi mx) K
    | .bs k off len=>match Q5 hi len,Q5 lo 0 with
     | some (h,bh),some (l,bl)=>C.yJ ((bh&&decide (h≤len))&&(bl&&decide (l≤h))) (aD (decide (h=l)) (K (.p (.sl false []))) (C.yJ (jZ σ k z) (K (.bs k (off+l) (h-l)))))
     | _,_=>C.bad 46
    | _=>C.bad 47
   | none=>C.bad 48
  | none=>match P.underlying t,d with
   | some .string,.p (.v (.string s))=>match Q5 hi s.size,Q5 lo 0 with
    | some (h,bh),some (l,bl)=>C.yJ ((bh&&decide (h≤s.size))&&(bl&&decide (l≤h))) (K (.p (.v (.string (s.extract l h)))))
    | _,_=>C.bad 49
   | _,_=>q8 C 50 (kW P σ t d lo hi mx) K
def AWI (t:TypeId) (d i:D) (K:D→Prop):Prop :=
 match i,d,P.underlying t with
 | .p (.v (.int _ j)),.p (.v (.string s)),some .string=>C.byte s j fun b=>K (.p (.v (.int .u8 b)))
 | _,_,_=>q8 C 51 (HW P t d i) K
def AZ5 (σ:Nat→Option bB) (t:TypeId) (x i:D) (ok:Bool) (K:D→Prop):Prop :=
 match P.underlying t with
 | some (.map kt et) =>
  match vI P kt,i,tz? P et with
  | some kd,.p (.v k),some z =>
   match CM kd k,x with
   | true,.map m =>
    match σ m with
    | some (.map _ es)=>match AX P et,YQ P et with
     | some ag,some r=>C.find kd k es ag r (K (match ok with|true=>KP (.p (.v z)) (.v (.bool false))|false=>.p (.v z)))
       fun _ y=>K (match ok with|true=>.p (.bZ [aF ag r y,.v (.bool true)])|false=>.p (aF ag r y))
     | _,_=>C.bad 61
    | _=>C.bad 62
   | true,.p (.mp es)=>match AX P et,YQ P et with
    | some ag,some r=>C.find kd k (qX es) ag r (K (match ok with|true=>KP (.p (.v z)) (.v (.bool false))|false=>.p (.v z)))
      fun _ y=>K (match ok with|true=>.p (.bZ [aF ag r y,.v (.bool true)])|false=>.p (aF ag r y))
    | _,_=>C.bad 66
   | _,_=>q8 C 63 (wH P σ t x i ok) K
  | _,_,_=>C.bad 64
 | _=>C.bad 65
def xE:Sy→Bool
 | .int _=>true
 | .bool=>true
 | .str=>true
 | .pr a b=>xE a&&xE b
 | _=>false
def PH (fid:FuncId):Option Sh:=match P.funcs[fid]? with
 | some fn=>shL P fn.resultTypes.toList
 | none=>none
def AWK (σ:Nat→Option bB) (n:Nat) (f:D) (args:List D) (K:D→Prop):Prop :=
 match jW f with
 | some (fid,a,b)=>match E fid,PH P fid with
  | some (.pure g),some s=>match gZ (a++args++b) with
   | some ts=>C.call s (g ts) fun y=>K (.p (Sh.enc s y))
   | none=>match (a++args++b).mapM (iA σ 4),s.all (fun x=>xE x.2) with
    | some ts,true=>C.call s (g ts) fun y=>K (.p (Sh.enc s y))
    | _,_=>C.bad 71
  | some (.read g),some s=>C.call s (g (a++args++b) σ n) fun y=>K (.p (Sh.enc s y))
  | some (.new g),some s=>match (a++args++b).mapM (iA σ 4) with
   | some ts=>C.call s (g ts) fun y=>K (.p (Sh.enc s y))
   | none=>C.bad 74
  | some (.APW g),some _=>match (a++args++b).mapM (iA σ 4) with
   | some ts=>C.opt (List (ByteArray×Int)) (g ts) fun es=>K (.p (.mp (bS es)))
   | none=>C.bad 75
  | some (.ext g),some s=>match gZ (a++args++b) with
   | some ts=>C.call s (g ts) fun y=>K (.p (Sh.enc s y))
   | none=>C.bad 76
  | _,_=>C.bad 72
 | none=>C.bad 73
def AIX (t:TypeId) (len cap:D) (K:D→Prop):Prop :=
 match l6 P t with
 | some e =>
  match tsz? P e,tby? P e,tz? P e,len,cap with
  | some z,some by_,some zv,.p (.v (.int _ a)),.p (.v (.int _ b)) =>
   match decide (0<z)&&zv.cells.size == z&&zv.cells.all Value.oneCell' with
   | true=>C.yJ (decide (a=b)&&decide (0≤b)&&decide (b*by_≤140737488355328)&&decide (b≤140737488355328)) (K (.p (.sl false (List.replicate a.toNat (zv.cells.toList.map .v)))))
   | false=>C.bad 18
  | _,_,_,_,_=>C.bad 19
 | none=>C.bad 20
def AG6 (σ:Nat→Option bB) (src dst:TypeId) (d:D) (K:D→Prop):Prop :=
 match d with
 | .own k=>match σ k,P.underlying src,P.underlying dst with
  | some (.arr _ z rows),some (.slice e),some .string=>match P.underlying e,decide (z=1) with
   | some (.int .u8),true=>C.dec (.int .u8) rows fun xs=>C.yJ (decide (0<rows.length)) (K (.p (.v (.string (strOfNums xs)))))
   | _,_=>C.bad 21
  | _,_,_=>C.bad 22
 | d=>q8 C 83 (NI P src dst d) K
def VV (src dst:TypeId) (d:D) (K:D→Prop):Prop :=
 match d,P.underlying src,P.underlying dst with
 | .p (.v (.string s)),some .string,some (.slice e)=>match P.underlying e with
  | some (.int .u8)=>C.yJ (decide (s.size≤140737488355328)) (K (.p (.sl false (uP s))))
  | _=>C.bad 84
 | d,_,_=>q8 C 82 (JG P src dst d) K
def AG7 (src dst:TypeId) (d:D) (K:D→Prop):Prop :=
 match d,P.underlying src,P.underlying dst with
 | .p (.sl fl rows),some (.slice e),some .string=>match P.underlying e with
  | some (.int .u8)=>C.dec (.int .u8) rows fun xs=>K (.p (.v (.string (strOfNums xs))))
  | _=>C.bad 85
 | d,_,_=>VV C P src dst d K
def qvS (n:Nat) (σ:Nat→Option bB) (s₀ s:Nat→D) (op:Op) (K:D→Prop):Prop :=
 match op with
 | .indexAddr t x i=>BAZ C P σ t (ev s x) (ev s i) K
 | .makeSlice t l c=>AIX C P t (ev s l) (ev s c) K
 | .load t a=>AZ4 C P σ t (ev s a) K
 | .binOp op t x y _=>match Env.marked E 8000000000 with
  | true=>AJ7 C P op t (ev s x) (ev s y) K
  | false=>A4J C P op t (ev s x) (ev s y) K
 | .slice t x lo hi mx=>AJ9 C P σ t (ev s x) (lo.map (ev s)) (hi.map (ev s)) (mx.map (ev s)) K
 | .index t x i=>AWI C P t (ev s x) (ev s i) K
 | .lookup t x i ok=>AZ5 C P σ t (ev s x) (ev s i) ok K
 | .convert src dst x=>match E.marked (6000000000+src) with
  | true=>AG6 C P σ src dst (ev s x) K
  | false=>match Env.marked E 8000000000 with
   | true=>AG7 C P src dst (ev s x) K
   | false=>VV C P src dst (ev s x) K
 | .call c=>match c.callee with
  | .value f=>AWK C P E σ n (ev s f) (c.args.toList.map (ev s)) K
  | _=>q8 C 81 (qv P E n σ s₀ s true op) K
 | op=>q8 C 82 (qv P E n σ s₀ s true op) K
end
section
variable {P : Program} {E : Env}
theorem dK {c:Nat} {x:Option D} {K:D→Prop} (h:q8 nF c x K):∃ d,x=some d∧K d:=by
 unfold q8 at h
 split at h
 ·simp_all
 ·exact h.elim
theorem ARJ (l:List T):TF (l.map .p) = .p (.agg l):=by unfold TF;rw[M3]
theorem BG {j:Int} {K:Int→Prop}:∀ {n i:Nat},EZ nF j K n i→∃ q,j=q∧K q
 | 0,_,h=>h.elim
 | n+1,i,h=>by
  unfold EZ at h
  cases hd:decide (j=Int.ofNat i) with
  | true=>rw[hd] at h;exact ⟨_,of_decide_eq_true hd,h⟩
  | false=>rw[hd] at h;exact BG (n:=n) (i:=i+1) h
theorem AQ0 {σ:Nat→Option bB} {t:TypeId} {d i:D} {K:D→Prop} (h:BAZ nF P σ t d i K):∃ r,dN P σ t d i=some r∧K r:=by
 unfold BAZ at h
 split at h
 ·rename_i kk j e he
  split at h
  ·rename_i z r hz hr
   split at h
   ·exact dK h
   split at h
   ·rename_i tt hw
    have hw:r.w=z:=by simpa using hw
    split at h
    ·rename_i f rows hrows
     obtain ⟨y,h0,h1,h2⟩:=h
     refine ⟨_,?_,h2⟩
     unfold dN
     have:¬ j<0:=by omega
     simp only[this,if_false,he,hz,hrows,h1,Sy.cP,hw,if_true]
    ·exact h.elim
   ·rename_i k hw
    have hw:r.w=z:=by simpa using hw
    split at h
    ·rename_i ro zz rows hσ
     obtain ⟨y,h0,h1,h2⟩:=h
     refine ⟨_,?_,h2⟩
     unfold dN
     have:¬ j<0:=by omega
     have hR:(σ k).bind eC=some (aU rows):=by rw[hσ];rfl
     simp only[this,if_false,he,hz,hR,pRows_get?,h1,Option.map_some,List.length_map,Sy.cP,hw,if_true]
    ·exact dK h
   ·rename_i k off len hw
    have hw:r.w=z:=by simpa using hw
    split at h
    ·rename_i ro zz rows hσ
     obtain ⟨hb,y,h0,h1,h2⟩:=h
     simp only[Bool.and_eq_true,decide_eq_true_eq] at hb
     refine ⟨_,?_,h2⟩
     unfold dN
     have:¬ j<0:=by omega
     have hR:(σ k).bind eC=some (aU rows):=by rw[hσ];rfl
     simp only[Int.toNat_natCast] at h1
     simp only[this,if_false,he,hz,hb.2,if_true,hR,pRows_get?,h1,Option.map_some,List.length_map,Sy.cP,hw,if_true]
    ·exact dK h
   ·exact h.elim
  ·exact h.elim
 ·split at h
  ·split at h
   ·obtain ⟨_,rfl,h⟩:=BG h
    exact dK h
   ·exact dK h
  ·exact dK h
 ·exact dK h
theorem AIU {σ:Nat→Option bB} {t:TypeId} {d:D} {K:D→Prop} (h:AZ4 nF P σ t d K):∃ r,yB P σ t d=some r∧K r:=by
 unfold AZ4 at h
 split at h
 ·rename_i k i o
  split at h
  ·rename_i ro zz rows hσ
   split at h
   ·rename_i r ag n hr hag hn
    split at h
    ·rename_i hw
     simp only[Bool.and_eq_true,beq_iff_eq,Bool.or_eq_true] at hw
     obtain ⟨row,y,h1,h2,h3,h4⟩:=h
     refine ⟨_,?_,h4⟩
     have hR:(σ k).bind eC=some (aU rows):=by rw[hσ];rfl
     unfold yB
     simp only[hag,hn,hR,pRows_get?,h1,Option.map_some]
     cases ag with
     | true =>
      have:o+n≤(row.map D.p).length:=by simp;omega
      simp only[if_true,this]
      rw[←List.map_drop,←List.map_take,←hw.1,h3,ARJ]
      rfl
     | false =>
      have hn1:n=1:=by simpa using hw.2
      have hw1:r.w=1:=by omega
      have hl:(r.enc y).length=1:=by rw[Sy.cP];exact hw1
      obtain ⟨x,hx⟩:=List.length_eq_one_iff.1 hl
      have:row[o]? = some x:=by
       have h5:((row.drop o).take r.w)[0]? = some x:=by rw[h3,hx];rfl
       rw[hw1] at h5
       simpa [List.getElem?_take,List.getElem?_drop] using h5
      simp only[Bool.false_eq_true,if_false,List.getElem?_map,this,Option.map_some,aF,hx,hdT]
    ·exact h.elim
   ·exact h.elim
  ·exact dK h
 ·exact dK h
theorem R0 {op:BinOp} {t:TypeId} {x y:D} {K:D→Prop} (h:A4J nF P op t x y K):∃ r,J9 P op t x y=some r∧K r:=by
 unfold A4J at h
 split at h
 ·split at h
  ·rename_i k a k' b
   split at h
   ·rename_i hk
    have hk:=of_decide_eq_true hk
    subst hk
    obtain ⟨hb,h⟩:=h
    have hb:¬ b=0:=by simpa using hb
    exact ⟨_,by simp[J9,AQ,Q4,AAJ,WQ,hb],h⟩
   ·exact h.elim
  ·exact h.elim
 ·split at h
  ·rename_i k a k' b
   split at h
   ·rename_i hk
    have hk:=of_decide_eq_true hk
    subst hk
    obtain ⟨hb,h⟩:=h
    have hb:¬ b=0:=by simpa using hb
    exact ⟨_,by simp[J9,AQ,Q4,AAJ,WQ,hb],h⟩
   ·exact h.elim
  ·exact h.elim
 ·split at h
  ·rename_i a b
   obtain ⟨hb,h⟩:=h
   have hb:((a.size+b.size:Nat):Int)≤9223372036854775807:=of_decide_eq_true hb
   exact ⟨_,by simp only[J9,AQ,Q4,AAJ,AKW,if_pos hb,Option.map_some],h⟩
  ·exact dK h
 ·exact dK h
theorem AEK {op:BinOp} {t:TypeId} {x y:D} {K:D→Prop} (h:AJ7 nF P op t x y K):∃ r,J9 P op t x y=some r∧K r:=by
 unfold AJ7 at h
 split at h
 ·split at h
  ·obtain ⟨hb,h⟩:=h
   rw[Bool.and_eq_true,decide_eq_true_eq,decide_eq_true_eq] at hb
   exact ⟨_,by simp[J9,AQ,Q4,AAJ,hb],h⟩
  ·exact h.elim
 ·split at h
  ·obtain ⟨hb,h⟩:=h
   rw[Bool.and_eq_true,decide_eq_true_eq,decide_eq_true_eq] at hb
   exact ⟨_,by simp[J9,AQ,Q4,AAJ,hb],h⟩
  ·exact h.elim
 ·exact R0 h
theorem gP {d:Option D} {dflt m hi:Nat} {b:Bool} (h:Q5 d dflt=some (m,b)) (hb:(b&&decide (m≤hi))=true):o8 d dflt hi=some m:=by
 simp only[Bool.and_eq_true,decide_eq_true_eq] at hb
 unfold Q5 at h
 split at h
 ·cases h;simp[o8,hb.2]
 ·rename_i k i
  cases h
  have h0:0≤i:=of_decide_eq_true hb.1
  have h1:i≤hi:=by have:=hb.2;omega
  simp[o8,h0,h1]
 ·cases h
theorem AEM {σ:Nat→Option bB} {t:TypeId} {d:D} {lo hi mx:Option D} {K:D→Prop} (h:AJ9 nF P σ t d lo hi mx K):∃ r,kW P σ t d lo hi mx=some r∧K r:=by
 unfold AJ9 at h
 split at h
 ·exact dK h
 ·split at h
  ·rename_i e he
   split at h
   ·rename_i z hz
    split at h
    ·split at h
     ·rename_i full rows hrows
      split at h
      ·rename_i hN bh lN bl h1 h2
       obtain ⟨hb,h⟩:=h
       rw[Bool.and_eq_true,Bool.and_eq_true] at hb
       refine ⟨_,?_,h⟩
       unfold kW
       simp only[he,hz,hrows,hb.1.1,if_true,gP h1 hb.1.2,gP h2 hb.2]
      ·exact h.elim
     ·exact h.elim
    ·rename_i k
     split at h
     ·rename_i ro zz rows hσ
      split at h
      ·rename_i hN bh lN bl h1 h2
       obtain ⟨hb,h⟩:=h
       rw[Bool.and_eq_true] at hb
       have hR:(σ k).bind eC=some (aU rows):=by rw[hσ];rfl
       rw[qP] at h
       by_cases heq:hN=lN
       ·refine ⟨_,?_,h.1 (by simpa using heq)⟩
        unfold kW
        simp only[he,hz,hR,bU,gP h1 hb.1,gP h2 hb.2];rw[if_pos heq]
       ·obtain ⟨hw,hk⟩:=h.2 (by simpa using heq)
        have hw:jZ σ k z=true:=by
         unfold jZ
         rw[hR]
         cases rows with
         | nil=>cases hw
         | cons r l=>simpa [aU,A60] using hw
        refine ⟨_,?_,hk⟩
        unfold kW
        simp only[he,hz,hR,bU,gP h1 hb.1,gP h2 hb.2];rw[if_neg heq,if_pos hw]
      ·exact h.elim
     ·exact dK h
    ·split at h
     ·rename_i hN bh lN bl h1 h2
      obtain ⟨hb,h⟩:=h
      rw[Bool.and_eq_true] at hb
      rw[qP] at h
      by_cases heq:hN=lN
      ·refine ⟨_,?_,h.1 (by simpa using heq)⟩
       unfold kW
       simp only[he,hz,gP h1 hb.1,gP h2 hb.2];rw[if_pos heq]
      ·obtain ⟨hw,hk⟩:=h.2 (by simpa using heq)
       refine ⟨_,?_,hk⟩
       unfold kW
       simp only[he,hz,gP h1 hb.1,gP h2 hb.2];rw[if_neg heq,if_pos hw]
     ·exact h.elim
    ·exact h.elim
   ·exact h.elim
  ·rename_i he
   split at h
   ·rename_i s hu
    split at h
    ·rename_i hN bh lN bl h1 h2
     obtain ⟨hb,h⟩:=h
     rw[Bool.and_eq_true] at hb
     refine ⟨_,?_,h⟩
     unfold kW
     simp only[he,hu,gP h1 hb.1,gP h2 hb.2]
    ·exact h.elim
   ·exact dK h
theorem AGZ {t:TypeId} {d i:D} {K:D→Prop} (h:AWI nF P t d i K):∃ r,HW P t d i=some r∧K r:=by
 unfold AWI at h
 split at h
 ·obtain ⟨b,h0,h1,h2⟩:=h
  unfold HW
  simp_all
 ·exact dK h
theorem AIW {σ:Nat→Option bB} {t:TypeId} {x i:D} {ok:Bool} {K:D→Prop} (h:AZ5 nF P σ t x i ok K):∃ r,wH P σ t x i ok=some r∧K r:=by
 unfold AZ5 at h
 split at h
 ·rename_i kt et hu
  split at h
  ·rename_i kd k z hk hz
   split at h
   ·rename_i m hkey
    split at h
    ·rename_i ro es hσ
     split at h
     ·rcases h with ⟨h1,h2⟩|⟨i,y,h1,h2⟩
      ·refine ⟨_,?_,h2⟩
       unfold wH
       simp only[hu,hk,hz,hkey,hσ,h1]
       cases ok<;>rfl
      ·refine ⟨_,?_,h2⟩
       unfold wH
       simp only[hu,hk,hz,hkey,hσ,h1]
       cases ok<;>rfl
     ·exact h.elim
    ·exact h.elim
   ·rename_i es hkey
    split at h
    ·rcases h with ⟨h1,h2⟩|⟨i,y,h1,h2⟩
     ·refine ⟨_,?_,h2⟩
      unfold wH
      simp only[hu,hk,hz,hkey,h1]
      cases ok<;>rfl
     ·refine ⟨_,?_,h2⟩
      unfold wH
      simp only[hu,hk,hz,hkey,h1]
      cases ok<;>rfl
    ·exact h.elim
   ·exact dK h
  ·exact h.elim
 ·exact h.elim
theorem uV:∀ (r:Sy),xE r=true→∀ (x:r.den) (n:Nat),(r.enc x).all (T.wG n)=true
 | .int _,_,x,n=>by cases n<;>simp[Sy.enc,T.wG]
 | .bool,_,x,n=>by cases n<;>simp[Sy.enc,T.wG]
 | .str,_,x,n=>by cases n<;>simp[Sy.enc,T.wG]
 | .pr a b,h,x,n=>by
  simp only[xE,Bool.and_eq_true] at h
  simp only[Sy.enc,List.all_append,Bool.and_eq_true]
  exact ⟨uV a h.1 x.1 n,uV b h.2 x.2 n⟩
theorem HK {ag:Bool} {r:Sy} (h:xE r=true) (x:r.den) (n:Nat):T.wG (n+1) (aF ag r x)=true:=by
 have:=uV r h x (n+1)
 cases ag with
 | true=>exact uV r h x n
 | false =>
  simp only[aF]
  cases he:r.enc x with
  | nil=>rfl
  | cons a l=>rw[he] at this;simp only[List.all_cons,Bool.and_eq_true] at this;exact this.1
theorem SA:∀ (s:Sh),s.all (fun x=>xE x.2)=true→∀ (y:Sh.den s) (n:Nat),(Sh.iH s y).all (T.wG (n+1))=true
 | [],_,_,_=>rfl
 | [a],h,y,n=>by
  simp only[List.all_cons,List.all_nil,Bool.and_true] at h
  simp only[Sh.iH,List.all_cons,List.all_nil,Bool.and_true]
  exact HK h y n
 | a::b::l,h,y,n=>by
  simp only[Sh.iH,List.all_cons,Bool.and_eq_true] at *
  have:=SA (b::l) (by rw[List.all_cons,Bool.and_eq_true];exact h.2) y.2 n
  exact ⟨HK h.1 y.1 n,this⟩
theorem A45 {s:Sh} (h:s.all (fun x=>xE x.2)=true) (y:Sh.den s):(Sh.enc s y).flat=true:=by
 match s,h,y with
 | [],h,y=>rfl
 | [a],h,y =>
  simp only[List.all_cons,List.all_nil,Bool.and_true] at h
  exact HK h y 2
 | a::b::l,h,y=>exact SA (a::b::l) h y 1
theorem AG1 {σ:Nat→Option bB} {n:Nat} {f:D} {args:List D} {K:D→Prop} (h:AWK nF P E σ n f args K):∃ r,p9 E σ n f args=some r∧K r:=by
 unfold AWK at h
 split at h
 ·rename_i fid a b hc
  split at h
  ·rename_i g s hE hs
   split at h
   ·obtain ⟨y,h1,h2⟩:=h
    unfold p9
    simp_all
   ·rename_i hts
    split at h
    ·rename_i ts hm hfl
     obtain ⟨y,h1,h2⟩:=h
     refine ⟨_,?_,h2⟩
     unfold p9
     simp only[hc,hE,hts,hm,h1,A45 hfl y,if_true]
    ·exact h.elim
  ·obtain ⟨y,h1,h2⟩:=h
   unfold p9
   simp_all
  ·split at h
   ·obtain ⟨y,h1,h2⟩:=h
    unfold p9
    simp_all
   ·exact h.elim
  ·split at h
   ·obtain ⟨y,h1,h2⟩:=h
    unfold p9
    simp_all
   ·exact h.elim
  ·split at h
   ·obtain ⟨y,h1,h2⟩:=h
    unfold p9
    simp_all
   ·exact h.elim
  ·exact h.elim
 ·exact h.elim
theorem ADG {t:TypeId} {a b:D} {K:D→Prop} (h:AIX nF P t a b K):∃ d,ADF P t a b=some d∧K d:=by
 unfold AIX at h
 split at h
 ·rename_i e he
  split at h
  ·rename_i z by_ zv k1 x k2 y hz hby hzv
   split at h
   ·rename_i hc
    obtain ⟨hb,hk⟩:=h
    refine ⟨_,?_,hk⟩
    simp only[ADF,he,hz,hby,hzv,hc,hb,Bool.and_self]
   ·exact h.elim
  ·exact h.elim
 ·exact h.elim
theorem B6:∀ {rows:List (List T)} {xs:List Int},kH rows=xs.map (Sy.int .u8).enc→B5 rows=some xs
 | [],[],_=>rfl
 | [],_::_,h=>by cases h
 | _::_,[],h=>by cases h
 | r::rows,n::xs,h=>by
  unfold kH at h
  obtain ⟨h1,h2⟩:=List.cons.inj h
  have ih:=B6 (rows:=rows) (xs:=xs) h2
  match r,h1 with
  | [],h1=>cases h1
  | [t],h1 =>
   have h3:T.canon 0 t = .v (.int .u8 n):=(List.cons.inj h1).1
   have e:t = .v (.int .u8 n):=by
    cases t with
    | v v =>
     unfold T.canon at h3
     split at h3<;>first|exact h3|cases h3
    | _=>simp[T.canon] at h3
   subst e
   simp only[B5,ih,Option.map_some]
  | _::_::_,h1=>cases (List.cons.inj h1).2
theorem AAS {σ:Nat→Option bB} {src dst:TypeId} {d:D} {K:D→Prop} (h:AG6 nF P σ src dst d K):∃ r,R4 P σ src dst d=some r∧K r:=by
 unfold AG6 at h
 split at h
 ·split at h
  ·rename_i hσ hs hd
   split at h
   ·rename_i he hz
    obtain ⟨xs,hx,hb,hk⟩:=h
    simp only[R4,hσ,hs,hd,he,B6 hx]
    simp_all
   ·exact h.elim
  ·exact h.elim
 ·obtain ⟨r,h1,h2⟩:=dK h
  unfold R4
  simp_all
theorem JH {src dst:TypeId} {d:D} {K:D→Prop} (h:VV nF P src dst d K):∃ r,JG P src dst d=some r∧K r:=by
 unfold VV at h
 split at h
 ·rename_i s e hs hd
  split at h
  ·rename_i he
   obtain ⟨hb,hk⟩:=h
   refine ⟨_,?_,hk⟩
   simp only[JG,NI,ALI,hs,hd,he,hb]
  ·exact h.elim
 ·exact dK h
theorem AAT {src dst:TypeId} {d:D} {K:D→Prop} (h:AG7 nF P src dst d K):∃ r,JG P src dst d=some r∧K r:=by
 unfold AG7 at h
 split at h
 ·rename_i fl rows e hs hd
  split at h
  ·rename_i he
   obtain ⟨xs,hx,hk⟩:=h
   refine ⟨_,?_,hk⟩
   simp only[JG,NI,fK,hs,hd,he,B6 hx]
  ·exact h.elim
 ·exact JH h
theorem A1J {n:Nat} {σ:Nat→Option bB} {s₀ s:Nat→D} {op:Op} {K:D→Prop} (h:qvS nF P E n σ s₀ s op K):∃ d,qv P E n σ s₀ s true op=some d∧K d:=by
 unfold qvS at h
 split at h
 ·exact AQ0 h
 ·exact ADG h
 ·exact AIU h
 ·split at h
  ·exact AEK h
  ·exact R0 h
 ·exact AEM h
 ·exact AGZ h
 ·exact AIW h
 ·rename_i src dst x
  split at h
  ·rename_i hm
   obtain ⟨d,h1,h2⟩:=AAS h
   refine ⟨d,?_,h2⟩
   simp only[qv,hm]
   exact h1
  ·rename_i hm
   have h:∃ r,JG P src dst (ev s x)=some r∧K r:=by
    split at h
    ·exact AAT h
    ·exact JH h
   obtain ⟨d,h1,h2⟩:=h
   refine ⟨d,?_,h2⟩
   simp only[qv,hm]
   exact h1
 ·split at h
  ·rename_i f hf
   obtain ⟨d,h1,h2⟩:=AG1 h
   refine ⟨d,?_,h2⟩
   simp only[qv,hf]
   exact h1
  ·exact dK h
 ·exact dK h
end
end Go.Pv
