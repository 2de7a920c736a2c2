/-
  The symbolic executor, part b: operations.
-/
import Derived.Test.YtcnfagefgkblkaaGreatDoorVska
set_option linter.defProp false
set_option linter.unusedSimpArgs false
namespace Go.Pv
open Go Go.RowKit
section
variable (C : Combs) (P : Program) (E : Env)
def pY (c:Nat) (x:Option D) (K:D→Prop):Prop:=match x with
 | some d=>K d
 | none=>C.bad c
def Sy.isAny:Sy→Bool
 | .any=>true
 | _=>false
def B8 (j:Int) (K:Int→Prop):Nat→Nat→Prop
 | 0,_=>C.bad 18
 | n+1,i=>aD (decide (j=Int.ofNat i)) (K (Int.ofNat i)) (B8 j K n (i+1))
def A9D (σ:Nat→Option a6) (t:TypeId) (d i:D) (K:D→Prop):Prop :=
 match i,kX P t with
 | .p (.v (.int _ j)),some e =>
  match tsz? P e,UW P e with
  | some z,some r =>
   match r.isAny with
   | true=>pY C 17 (dA P σ t d i) K
   | false =>
   match r.w == z,d with
   | true,.p tt=>match eW tt with
    | some (_,rows)=>C.rows r rows j fun y=>K (.p (.ref (r.enc y)))
    | none=>C.bad 11
   | true,.own k=>match σ k with
    | some (.arr _ _ rows)=>C.rows r rows j fun _=>K (.ptr k j.toNat 0)
    | _=>pY C 12 (dA P σ t d i) K
   | true,.bs k off len=>match σ k with
    | some (.arr _ _ rows)=>C.wP (decide (0≤j)&&decide (j.toNat<len)) (C.rows r rows (off+j.toNat:Nat) fun _=>K (.ptr k (off+j.toNat) 0))
    | _=>pY C 13 (dA P σ t d i) K
   | _,_=>C.bad 14
  | _,_=>C.bad 15
 | .p (.v (.int kk j)),none=>match WI P t with
  | some (m,_)=>match decide (m≤8) with
   | true=>B8 C j (fun j=>pY C 19 (dA P σ t d (.p (.v (.int kk j)))) K) m 0
   | false=>pY C 16 (dA P σ t d i) K
  | none=>pY C 16 (dA P σ t d i) K
 | _,_=>pY C 16 (dA P σ t d i) K
def AW9 (σ:Nat→Option a6) (t:TypeId) (d:D) (K:D→Prop):Prop :=
 match d with
 | .ptr k i o=>match σ k with
  | some (.arr _ _ rows)=>match UW P t,yT P t,tsz? P t with
   | some r,some ag,some n=>match r.w == n&&(ag||n == 1) with
    | true=>C.part r rows i o fun y=>K (.p (aF ag r y))
    | false=>C.bad 21
   | _,_,_=>C.bad 22
  | _=>pY C 23 (wK P σ t d) K
 | _=>pY C 24 (wK P σ t d) K
def A2J (op:BinOp) (t:TypeId) (x y:D) (K:D→Prop):Prop :=
 match op with
 | .quo=>match x,y with
  | .p (.v (.int k a)),.p (.v (.int k' b))=>match decide (k=k') with
   | true=>C.wP (!decide (b=0)) (K (.p (.v (.int k (k.wrap (a.tdiv b))))))
   | false=>C.bad 31
  | _,_=>C.bad 32
 | .rem=>match x,y with
  | .p (.v (.int k a)),.p (.v (.int k' b))=>match decide (k=k') with
   | true=>C.wP (!decide (b=0)) (K (.p (.v (.int k (a.tmod b)))))
   | false=>C.bad 33
  | _,_=>C.bad 34
 | .add=>match x,y with
  | .p (.v (.string a)),.p (.v (.string b))=>C.wP (decide (((a.size+b.size:Nat):Int)≤9223372036854775807)) (K (.p (.v (.string (a++b)))))
  | _,_=>pY C 35 (HP P .add t x y) K
 | op=>pY C 36 (HP P op t x y) K
def AGF (op:BinOp) (t:TypeId) (x y:D) (K:D→Prop):Prop :=
 match op with
 | .shl=>match x,y with
  | .p (.v (.int k a)),.p (.v (.int _ b))=>C.wP (decide (0≤b)&&decide (b≤k.bits)) (K (.p (.v (.int k (k.wrap (a*2 ^ b.toNat))))))
  | _,_=>C.bad 37
 | .shr=>match x,y with
  | .p (.v (.int k a)),.p (.v (.int _ b))=>C.wP (decide (0≤b)&&decide (b≤k.bits)) (K (.p (.v (.int k (a / 2 ^ b.toNat)))))
  | _,_=>C.bad 38
 | op=>A2J C P op t x y K
def N3 (d:Option D) (dflt:Nat):Option (Nat×Bool):=match d with
 | none=>some (dflt,true)
 | some (.p (.v (.int _ i)))=>some (i.toNat,decide (0≤i))
 | _=>none
def A4R (z:Nat):List (List T)→Bool
 | r::_=>decide (r.length=z)
 | []=>false
def AGH (σ:Nat→Option a6) (t:TypeId) (d:D) (lo hi mx:Option D) (K:D→Prop):Prop :=
 match mx with
 | some _=>pY C 41 (j0 P σ t d lo hi mx) K
 | none=>match kX P t with
  | some e=>match tsz? P e with
   | some z=>match d with
    | .p tt=>match eW tt with
     | some (full,rows)=>match N3 hi rows.length,N3 lo 0 with
      | some (h,bh),some (l,bl)=>C.wP (FP z rows&&(bh&&decide (h≤rows.length))&&(bl&&decide (l≤h))) (K (.p (.sl (full&&decide (h=rows.length)) ((rows.take h).drop l))))
      | _,_=>C.bad 42
     | none=>C.bad 43
    | .own k=>match σ k with
     | some (.arr _ _ rows)=>match N3 hi rows.length,N3 lo 0 with
      | some (h,bh),some (l,bl)=>C.wP ((bh&&decide (h≤rows.length))&&(bl&&decide (l≤h))) (aD (decide (h=l)) (K (.p (.sl false []))) (C.wP (A4R z rows) (K (.bs k l (h-l)))))
      | _,_=>C.bad 44
     | _=>pY C 45 (j0 P σ t d lo hi mx) K
    | .bs k off len=>match N3 hi len,N3 lo 0 with
     | some (h,bh),some (l,bl)=>C.wP ((bh&&decide (h≤len))&&(bl&&decide (l≤h))) (aD (decide (h=l)) (K (.p (.sl false []))) (C.wP (iY σ k z) (K (.bs k (off+l) (h-l)))))
     | _,_=>C.bad 46
    | _=>C.bad 47
   | none=>C.bad 48
  | none=>match P.underlying t,d with
   | some .string,.p (.v (.string s))=>match N3 hi s.size,N3 lo 0 with
    | some (h,bh),some (l,bl)=>C.wP ((bh&&decide (h≤s.size))&&(bl&&decide (l≤h))) (K (.p (.v (.string (s.extract l h)))))
    | _,_=>C.bad 49
   | _,_=>pY C 50 (j0 P σ t d lo hi mx) K
def ATQ (t:TypeId) (d i:D) (K:D→Prop):Prop :=
 match i,d,P.underlying t with
 | .p (.v (.int _ j)),.p (.v (.string s)),some .string=>C.byte s j fun b=>K (.p (.v (.int .u8 b)))
 | _,_,_=>pY C 51 (E7 P t d i) K
def AXA (σ:Nat→Option a6) (t:TypeId) (x i:D) (ok:Bool) (K:D→Prop):Prop :=
 match P.underlying t with
 | some (.map kt et) =>
  match tM P kt,i,tz? P et with
  | some kd,.p (.v k),some z =>
   match AK kd k,x with
   | true,.map m =>
    match σ m with
    | some (.map _ es)=>match yT P et,UW P et with
     | some ag,some r=>C.find kd k es ag r (K (match ok with|true=>HY (.p (.v z)) (.v (.bool false))|false=>.p (.v z)))
       fun _ y=>K (match ok with|true=>.p (.bU [aF ag r y,.v (.bool true)])|false=>.p (aF ag r y))
     | _,_=>C.bad 61
    | _=>C.bad 62
   | true,.p (.mp es)=>match yT P et,UW P et with
    | some ag,some r=>C.find kd k (pT es) ag r (K (match ok with|true=>HY (.p (.v z)) (.v (.bool false))|false=>.p (.v z)))
      fun _ y=>K (match ok with|true=>.p (.bU [aF ag r y,.v (.bool true)])|false=>.p (aF ag r y))
    | _,_=>C.bad 66
   | _,_=>pY C 63 (uJ P σ t x i ok) K
  | _,_,_=>C.bad 64
 | _=>C.bad 65
def vK:Sy→Bool
 | .int _=>true
 | .bool=>true
 | .str=>true
 | .pr a b=>vK a&&vK b
 | _=>false
def QN (fid:FuncId):Option Sh:=match P.funcs[fid]? with
 | some fn=>shL P fn.resultTypes.toList
 | none=>none
def ATS (σ:Nat→Option a6) (n:Nat) (f:D) (args:List D) (K:D→Prop):Prop :=
 match iW f with
 | some (fid,a,b)=>match E fid,QN P fid with
  | some (.pure g),some s=>match jW (a++args++b) with
   | some ts=>C.call s (g ts) fun y=>K (.p (Sh.enc s y))
   | none=>match (a++args++b).mapM (gL σ 4),s.all (fun x=>vK x.2) with
    | some ts,true=>C.call s (g ts) fun y=>K (.p (Sh.enc s y))
    | _,_=>C.bad 71
  | some (.read g),some s=>C.call s (g (a++args++b) σ n) fun y=>K (.p (Sh.enc s y))
  | some (.new g),some s=>match (a++args++b).mapM (gL σ 4) with
   | some ts=>C.call s (g ts) fun y=>K (.p (Sh.enc s y))
   | none=>C.bad 74
  | some (.AL9 g),some _=>match (a++args++b).mapM (gL σ 4) with
   | some ts=>C.opt (List (ByteArray×Int)) (g ts) fun es=>K (.p (.mp (bI es)))
   | none=>C.bad 75
  | some (.ext g),some s=>match jW (a++args++b) with
   | some ts=>C.call s (g ts) fun y=>K (.p (Sh.enc s y))
   | none=>C.bad 76
  | _,_=>C.bad 72
 | none=>C.bad 73
def AE8 (t:TypeId) (len cap:D) (K:D→Prop):Prop :=
 match kX P t with
 | some e =>
  match tsz? P e,tby? P e,tz? P e,len,cap with
  | some z,some by_,some zv,.p (.v (.int _ a)),.p (.v (.int _ b)) =>
   match decide (0<z)&&zv.cells.size == z&&zv.cells.all Value.oneCell' with
   | true=>C.wP (decide (a=b)&&decide (0≤b)&&decide (b*by_≤140737488355328)&&decide (b≤140737488355328)) (K (.p (.sl false (List.replicate a.toNat (zv.cells.toList.map .v)))))
   | false=>C.bad 18
  | _,_,_,_,_=>C.bad 19
 | none=>C.bad 20
def ADH (σ:Nat→Option a6) (src dst:TypeId) (d:D) (K:D→Prop):Prop :=
 match d with
 | .own k=>match σ k,P.underlying src,P.underlying dst with
  | some (.arr _ z rows),some (.slice e),some .string=>match P.underlying e,decide (z=1) with
   | some (.int .u8),true=>C.dec (.int .u8) rows fun xs=>C.wP (decide (0<rows.length)) (K (.p (.v (.string (strOfNums xs)))))
   | _,_=>C.bad 21
  | _,_,_=>C.bad 22
 | d=>pY C 83 (KK P src dst d) K
def SI (src dst:TypeId) (d:D) (K:D→Prop):Prop :=
 match d,P.underlying src,P.underlying dst with
 | .p (.v (.string s)),some .string,some (.slice e)=>match P.underlying e with
  | some (.int .u8)=>C.wP (decide (s.size≤140737488355328)) (K (.p (.sl false (sV s))))
  | _=>C.bad 84
 | d,_,_=>pY C 82 (GY P src dst d) K
def ADI (src dst:TypeId) (d:D) (K:D→Prop):Prop :=
 match d,P.underlying src,P.underlying dst with
 | .p (.sl fl rows),some (.slice e),some .string=>match P.underlying e with
  | some (.int .u8)=>C.dec (.int .u8) rows fun xs=>K (.p (.v (.string (strOfNums xs))))
  | _=>C.bad 85
 | d,_,_=>SI C P src dst d K
def qvS (n:Nat) (σ:Nat→Option a6) (s₀ s:Nat→D) (op:Op) (K:D→Prop):Prop :=
 match op with
 | .indexAddr t x i=>A9D C P σ t (ev s x) (ev s i) K
 | .makeSlice t l c=>AE8 C P t (ev s l) (ev s c) K
 | .load t a=>AW9 C P σ t (ev s a) K
 | .binOp op t x y _=>match Env.marked E 8000000000 with
  | true=>AGF C P op t (ev s x) (ev s y) K
  | false=>A2J C P op t (ev s x) (ev s y) K
 | .slice t x lo hi mx=>AGH C P σ t (ev s x) (lo.map (ev s)) (hi.map (ev s)) (mx.map (ev s)) K
 | .index t x i=>ATQ C P t (ev s x) (ev s i) K
 | .lookup t x i ok=>AXA C P σ t (ev s x) (ev s i) ok K
 | .convert src dst x=>match E.marked (6000000000+src) with
  | true=>ADH C P σ src dst (ev s x) K
  | false=>match Env.marked E 8000000000 with
   | true=>ADI C P src dst (ev s x) K
   | false=>SI C P src dst (ev s x) K
 | .call c=>match c.callee with
  | .value f=>ATS C P E σ n (ev s f) (c.args.toList.map (ev s)) K
  | _=>pY C 81 (qv P E n σ s₀ s true op) K
 | op=>pY C 82 (qv P E n σ s₀ s true op) K
end
section
variable {P : Program} {E : Env}
theorem c0 {c:Nat} {x:Option D} {K:D→Prop} (h:pY mB c x K):∃ d,x=some d∧K d:=by
 unfold pY at h
 split at h
 ·exact ⟨_,rfl,h⟩
 ·exact h.elim
theorem ANW (l:List T):P8 (l.map .p) = .p (.agg l):=by unfold P8;rw[J5]
theorem zC {j:Int} {K:Int→Prop}:∀ {n i:Nat},B8 mB j K n i→∃ q,j=q∧K q
 | 0,_,h=>h.elim
 | n+1,i,h=>by
  unfold B8 at h
  cases hd:decide (j=Int.ofNat i) with
  | true=>rw[hd] at h;exact ⟨_,of_decide_eq_true hd,h⟩
  | false=>rw[hd] at h;exact zC (n:=n) (i:=i+1) h
theorem ANB {σ:Nat→Option a6} {t:TypeId} {d i:D} {K:D→Prop} (h:A9D mB P σ t d i K):∃ r,dA P σ t d i=some r∧K r:=by
 unfold A9D at h
 split at h
 ·rename_i kk j e he
  split at h
  ·rename_i z r hz hr
   split at h
   ·exact c0 h
   split at h
   ·rename_i tt hw
    have hw:r.w=z:=by simpa using hw
    split at h
    ·rename_i f rows hrows
     obtain ⟨y,h0,h1,h2⟩:=h
     refine ⟨_,?_,h2⟩
     unfold dA
     have:¬ j<0:=by omega
     simp only[this,if_false,he,hz,hrows,h1,Sy.cP,hw,if_true]
    ·exact h.elim
   ·rename_i k hw
    have hw:r.w=z:=by simpa using hw
    split at h
    ·rename_i ro zz rows hσ
     obtain ⟨y,h0,h1,h2⟩:=h
     refine ⟨_,?_,h2⟩
     unfold dA
     have:¬ j<0:=by omega
     have hR:(σ k).bind dL=some (aT rows):=by rw[hσ];rfl
     simp only[this,if_false,he,hz,hR,pRows_get?,h1,Option.map_some,List.length_map,Sy.cP,hw,if_true]
    ·exact c0 h
   ·rename_i k off len hw
    have hw:r.w=z:=by simpa using hw
    split at h
    ·rename_i ro zz rows hσ
     obtain ⟨hb,y,h0,h1,h2⟩:=h
     simp only[Bool.and_eq_true,decide_eq_true_eq] at hb
     refine ⟨_,?_,h2⟩
     unfold dA
     have:¬ j<0:=by omega
     have hR:(σ k).bind dL=some (aT rows):=by rw[hσ];rfl
     simp only[Int.toNat_natCast] at h1
     simp only[this,if_false,he,hz,hb.2,if_true,hR,pRows_get?,h1,Option.map_some,List.length_map,Sy.cP,hw,if_true]
    ·exact c0 h
   ·exact h.elim
  ·exact h.elim
 ·split at h
  ·split at h
   ·obtain ⟨_,rfl,h⟩:=zC h
    exact c0 h
   ·exact c0 h
  ·exact c0 h
 ·exact c0 h
theorem AE5 {σ:Nat→Option a6} {t:TypeId} {d:D} {K:D→Prop} (h:AW9 mB P σ t d K):∃ r,wK P σ t d=some r∧K r:=by
 unfold AW9 at h
 split at h
 ·rename_i k i o
  split at h
  ·rename_i ro zz rows hσ
   split at h
   ·rename_i r ag n hr hag hn
    split at h
    ·rename_i hw
     simp only[Bool.and_eq_true,beq_iff_eq,Bool.or_eq_true] at hw
     obtain ⟨row,y,h1,h2,h3,h4⟩:=h
     refine ⟨_,?_,h4⟩
     have hR:(σ k).bind dL=some (aT rows):=by rw[hσ];rfl
     unfold wK
     simp only[hag,hn,hR,pRows_get?,h1,Option.map_some]
     cases ag with
     | true =>
      have:o+n≤(row.map D.p).length:=by simp;omega
      simp only[if_true,this]
      rw[←List.map_drop,←List.map_take,←hw.1,h3,ANW]
      rfl
     | false =>
      have hn1:n=1:=by simpa using hw.2
      have hw1:r.w=1:=by omega
      have hl:(r.enc y).length=1:=by rw[Sy.cP];exact hw1
      obtain ⟨x,hx⟩:=List.length_eq_one_iff.1 hl
      have:row[o]? = some x:=by
       have h5:((row.drop o).take r.w)[0]? = some x:=by rw[h3,hx];rfl
       rw[hw1] at h5
       simpa [List.getElem?_take,List.getElem?_drop] using h5
      simp only[Bool.false_eq_true,if_false,List.getElem?_map,this,Option.map_some,aF,hx,hdT]
    ·exact h.elim
   ·exact h.elim
  ·exact c0 h
 ·exact c0 h
theorem OW {op:BinOp} {t:TypeId} {x y:D} {K:D→Prop} (h:A2J mB P op t x y K):∃ r,HP P op t x y=some r∧K r:=by
 unfold A2J at h
 split at h
 ·split at h
  ·rename_i k a k' b
   split at h
   ·rename_i hk
    have hk:=of_decide_eq_true hk
    subst hk
    obtain ⟨hb,h⟩:=h
    have hb:¬ b=0:=by simpa using hb
    exact ⟨_,by simp[HP,yP,N2,WL,TC,hb],h⟩
   ·exact h.elim
  ·exact h.elim
 ·split at h
  ·rename_i k a k' b
   split at h
   ·rename_i hk
    have hk:=of_decide_eq_true hk
    subst hk
    obtain ⟨hb,h⟩:=h
    have hb:¬ b=0:=by simpa using hb
    exact ⟨_,by simp[HP,yP,N2,WL,TC,hb],h⟩
   ·exact h.elim
  ·exact h.elim
 ·split at h
  ·rename_i a b
   obtain ⟨hb,h⟩:=h
   have hb:((a.size+b.size:Nat):Int)≤9223372036854775807:=of_decide_eq_true hb
   exact ⟨_,by simp only[HP,yP,N2,WL,AG4,if_pos hb,Option.map_some],h⟩
  ·exact c0 h
 ·exact c0 h
theorem AAT {op:BinOp} {t:TypeId} {x y:D} {K:D→Prop} (h:AGF mB P op t x y K):∃ r,HP P op t x y=some r∧K r:=by
 unfold AGF at h
 split at h
 ·split at h
  ·rename_i k a k' b
   obtain ⟨hb,h⟩:=h
   rw[Bool.and_eq_true,decide_eq_true_eq,decide_eq_true_eq] at hb
   exact ⟨_,by simp[HP,yP,N2,WL,hb],h⟩
  ·exact h.elim
 ·split at h
  ·rename_i k a k' b
   obtain ⟨hb,h⟩:=h
   rw[Bool.and_eq_true,decide_eq_true_eq,decide_eq_true_eq] at hb
   exact ⟨_,by simp[HP,yP,N2,WL,hb],h⟩
  ·exact h.elim
 ·exact OW h
theorem fU {d:Option D} {dflt m hi:Nat} {b:Bool} (h:N3 d dflt=some (m,b)) (hb:(b&&decide (m≤hi))=true):oB d dflt hi=some m:=by
 simp only[Bool.and_eq_true,decide_eq_true_eq] at hb
 unfold N3 at h
 split at h
 ·cases h;simp[oB,hb.2]
 ·rename_i k i
  cases h
  have h0:0≤i:=of_decide_eq_true hb.1
  have h1:i≤hi:=by have:=hb.2;omega
  simp[oB,h0,h1]
 ·cases h
theorem AAV {σ:Nat→Option a6} {t:TypeId} {d:D} {lo hi mx:Option D} {K:D→Prop} (h:AGH mB P σ t d lo hi mx K):∃ r,j0 P σ t d lo hi mx=some r∧K r:=by
 unfold AGH at h
 split at h
 ·exact c0 h
 ·split at h
  ·rename_i e he
   split at h
   ·rename_i z hz
    split at h
    ·rename_i tt
     split at h
     ·rename_i full rows hrows
      split at h
      ·rename_i hN bh lN bl h1 h2
       obtain ⟨hb,h⟩:=h
       rw[Bool.and_eq_true,Bool.and_eq_true] at hb
       refine ⟨_,?_,h⟩
       unfold j0
       simp only[he,hz,hrows,hb.1.1,if_true,fU h1 hb.1.2,fU h2 hb.2]
      ·exact h.elim
     ·exact h.elim
    ·rename_i k
     split at h
     ·rename_i ro zz rows hσ
      split at h
      ·rename_i hN bh lN bl h1 h2
       obtain ⟨hb,h⟩:=h
       rw[Bool.and_eq_true] at hb
       have hR:(σ k).bind dL=some (aT rows):=by rw[hσ];rfl
       rw[pH] at h
       by_cases heq:hN=lN
       ·refine ⟨_,?_,h.1 (by simpa using heq)⟩
        unfold j0
        simp only[he,hz,hR,bM,fU h1 hb.1,fU h2 hb.2];rw[if_pos heq]
       ·obtain ⟨hw,hk⟩:=h.2 (by simpa using heq)
        have hw:iY σ k z=true:=by
         unfold iY
         rw[hR]
         cases rows with
         | nil=>cases hw
         | cons r l=>simpa [aT,A4R] using hw
        refine ⟨_,?_,hk⟩
        unfold j0
        simp only[he,hz,hR,bM,fU h1 hb.1,fU h2 hb.2];rw[if_neg heq,if_pos hw]
      ·exact h.elim
     ·exact c0 h
    ·rename_i k off len
     split at h
     ·rename_i hN bh lN bl h1 h2
      obtain ⟨hb,h⟩:=h
      rw[Bool.and_eq_true] at hb
      rw[pH] at h
      by_cases heq:hN=lN
      ·refine ⟨_,?_,h.1 (by simpa using heq)⟩
       unfold j0
       simp only[he,hz,fU h1 hb.1,fU h2 hb.2];rw[if_pos heq]
      ·obtain ⟨hw,hk⟩:=h.2 (by simpa using heq)
       refine ⟨_,?_,hk⟩
       unfold j0
       simp only[he,hz,fU h1 hb.1,fU h2 hb.2];rw[if_neg heq,if_pos hw]
     ·exact h.elim
    ·exact h.elim
   ·exact h.elim
  ·rename_i he
   split at h
   ·rename_i s hu
    split at h
    ·rename_i hN bh lN bl h1 h2
     obtain ⟨hb,h⟩:=h
     rw[Bool.and_eq_true] at hb
     refine ⟨_,?_,h⟩
     unfold j0
     simp only[he,hu,fU h1 hb.1,fU h2 hb.2]
    ·exact h.elim
   ·exact c0 h
theorem AC9 {t:TypeId} {d i:D} {K:D→Prop} (h:ATQ mB P t d i K):∃ r,E7 P t d i=some r∧K r:=by
 unfold ATQ at h
 split at h
 ·rename_i kk j s hu
  obtain ⟨b,h0,h1,h2⟩:=h
  refine ⟨_,?_,h2⟩
  unfold E7
  have:¬ j<0:=by omega
  simp only[this,if_false,hu,h1,Option.map_some]
 ·exact c0 h
theorem AE7 {σ:Nat→Option a6} {t:TypeId} {x i:D} {ok:Bool} {K:D→Prop} (h:AXA mB P σ t x i ok K):∃ r,uJ P σ t x i ok=some r∧K r:=by
 unfold AXA at h
 split at h
 ·rename_i kt et hu
  split at h
  ·rename_i kd k z hk hz
   split at h
   ·rename_i m hkey
    split at h
    ·rename_i ro es hσ
     split at h
     ·rename_i ag r hag hr
      rcases h with ⟨h1,h2⟩|⟨i,y,h1,h2⟩
      ·refine ⟨_,?_,h2⟩
       unfold uJ
       simp only[hu,hk,hz,hkey,hσ,h1]
       cases ok<;>rfl
      ·refine ⟨_,?_,h2⟩
       unfold uJ
       simp only[hu,hk,hz,hkey,hσ,h1]
       cases ok<;>rfl
     ·exact h.elim
    ·exact h.elim
   ·rename_i es hkey
    split at h
    ·rename_i ag r hag hr
     rcases h with ⟨h1,h2⟩|⟨i,y,h1,h2⟩
     ·refine ⟨_,?_,h2⟩
      unfold uJ
      simp only[hu,hk,hz,hkey,h1]
      cases ok<;>rfl
     ·refine ⟨_,?_,h2⟩
      unfold uJ
      simp only[hu,hk,hz,hkey,h1]
      cases ok<;>rfl
    ·exact h.elim
   ·exact c0 h
  ·exact h.elim
 ·exact h.elim
theorem sY:∀ (r:Sy),vK r=true→∀ (x:r.den) (n:Nat),(r.enc x).all (T.qK n)=true
 | .int _,_,x,n=>by cases n<;>simp[Sy.enc,T.qK]
 | .bool,_,x,n=>by cases n<;>simp[Sy.enc,T.qK]
 | .str,_,x,n=>by cases n<;>simp[Sy.enc,T.qK]
 | .pr a b,h,x,n=>by
  simp only[vK,Bool.and_eq_true] at h
  simp only[Sy.enc,List.all_append,Bool.and_eq_true]
  exact ⟨sY a h.1 x.1 n,sY b h.2 x.2 n⟩
theorem EU {ag:Bool} {r:Sy} (h:vK r=true) (x:r.den) (n:Nat):T.qK (n+1) (aF ag r x)=true:=by
 have:=sY r h x (n+1)
 cases ag with
 | true=>exact sY r h x n
 | false =>
  simp only[aF]
  cases he:r.enc x with
  | nil=>rfl
  | cons a l=>rw[he] at this;simp only[List.all_cons,Bool.and_eq_true] at this;exact this.1
theorem O3:∀ (s:Sh),s.all (fun x=>vK x.2)=true→∀ (y:Sh.den s) (n:Nat),(Sh.iZ s y).all (T.qK (n+1))=true
 | [],_,_,_=>rfl
 | [a],h,y,n=>by
  simp only[List.all_cons,List.all_nil,Bool.and_true] at h
  simp only[Sh.iZ,List.all_cons,List.all_nil,Bool.and_true]
  exact EU h y n
 | a::b::l,h,y,n=>by
  rw[List.all_cons,Bool.and_eq_true] at h
  simp only[Sh.iZ,List.all_cons,Bool.and_eq_true] at *
  have:=O3 (b::l) (by rw[List.all_cons,Bool.and_eq_true];exact h.2) y.2 n
  exact ⟨EU h.1 y.1 n,this⟩
theorem A25 {s:Sh} (h:s.all (fun x=>vK x.2)=true) (y:Sh.den s):(Sh.enc s y).flat=true:=by
 unfold T.flat
 match s,h,y with
 | [],h,y=>rfl
 | [a],h,y =>
  simp only[List.all_cons,List.all_nil,Bool.and_true] at h
  exact EU h y 2
 | a::b::l,h,y=>exact O3 (a::b::l) h y 1
theorem ADB {σ:Nat→Option a6} {n:Nat} {f:D} {args:List D} {K:D→Prop} (h:ATS mB P E σ n f args K):∃ r,o7 E σ n f args=some r∧K r:=by
 unfold ATS at h
 split at h
 ·rename_i fid a b hc
  split at h
  ·rename_i g s hE hs
   split at h
   ·rename_i ts hts
    obtain ⟨y,h1,h2⟩:=h
    refine ⟨_,?_,h2⟩
    unfold o7
    simp only[hc,hE,hts,h1,Option.map_some]
   ·rename_i hts
    split at h
    ·rename_i ts hm hfl
     obtain ⟨y,h1,h2⟩:=h
     refine ⟨_,?_,h2⟩
     unfold o7
     simp only[hc,hE,hts,hm,h1,A25 hfl y,if_true]
    ·exact h.elim
  ·rename_i g s hE hs
   obtain ⟨y,h1,h2⟩:=h
   refine ⟨_,?_,h2⟩
   unfold o7
   simp only[hc,hE,h1,Option.map_some]
  ·rename_i g s hE hs
   split at h
   ·rename_i ts hts
    obtain ⟨y,h1,h2⟩:=h
    refine ⟨_,?_,h2⟩
    unfold o7
    simp only[hc,hE,hts,h1,Option.map_some]
   ·exact h.elim
  ·rename_i g s hE hs
   split at h
   ·rename_i ts hts
    obtain ⟨y,h1,h2⟩:=h
    refine ⟨_,?_,h2⟩
    unfold o7
    simp only[hc,hE,hts,h1,Option.map_some]
   ·exact h.elim
  ·rename_i g s hE hs
   split at h
   ·rename_i ts hts
    obtain ⟨y,h1,h2⟩:=h
    refine ⟨_,?_,h2⟩
    unfold o7
    simp only[hc,hE,hts,h1,Option.map_some]
   ·exact h.elim
  ·exact h.elim
 ·exact h.elim
theorem ZQ {t:TypeId} {a b:D} {K:D→Prop} (h:AE8 mB P t a b K):∃ d,ZP P t a b=some d∧K d:=by
 unfold AE8 at h
 split at h
 ·rename_i e he
  split at h
  ·rename_i z by_ zv k1 x k2 y hz hby hzv
   split at h
   ·rename_i hc
    obtain ⟨hb,hk⟩:=h
    refine ⟨_,?_,hk⟩
    simp only[ZP,he,hz,hby,hzv,hc,hb,Bool.and_self]
   ·exact h.elim
  ·exact h.elim
 ·exact h.elim
theorem zS:∀ {rows:List (List T)} {xs:List Int},jK rows=xs.map (Sy.int .u8).enc→zR rows=some xs
 | [],[],_=>rfl
 | [],_::_,h=>by cases h
 | _::_,[],h=>by cases h
 | r::rows,n::xs,h=>by
  unfold jK at h
  rw[List.map_cons,List.map_cons] at h
  obtain ⟨h1,h2⟩:=List.cons.inj h
  have ih:=zS (rows:=rows) (xs:=xs) h2
  match r,h1 with
  | [],h1=>cases h1
  | [t],h1 =>
   have h3:T.canon 0 t = .v (.int .u8 n):=(List.cons.inj h1).1
   have e:t = .v (.int .u8 n):=by
    cases t with
    | v v =>
     unfold T.canon at h3
     split at h3<;>first|exact h3|cases h3
    | _=>simp[T.canon] at h3
   subst e
   simp only[zR,ih,Option.map_some]
  | _::_::_,h1=>cases (List.cons.inj h1).2
theorem WU {σ:Nat→Option a6} {src dst:TypeId} {d:D} {K:D→Prop} (h:ADH mB P σ src dst d K):∃ r,OZ P σ src dst d=some r∧K r:=by
 unfold ADH at h
 split at h
 ·split at h
  ·rename_i hσ hs hd
   split at h
   ·rename_i he hz
    obtain ⟨xs,hx,hb,hk⟩:=h
    refine ⟨_,?_,hk⟩
    simp only[OZ,hσ,hs,hd,he,zS hx]
    rw[if_pos ⟨of_decide_eq_true hz,of_decide_eq_true hb⟩]
   ·exact h.elim
  ·exact h.elim
 ·rename_i hn
  obtain ⟨r,h1,h2⟩:=c0 h
  refine ⟨r,?_,h2⟩
  unfold OZ
  split
  ·exact absurd rfl (hn _)
  ·exact h1
theorem GZ {src dst:TypeId} {d:D} {K:D→Prop} (h:SI mB P src dst d K):∃ r,GY P src dst d=some r∧K r:=by
 unfold SI at h
 split at h
 ·rename_i s e hs hd
  split at h
  ·rename_i he
   obtain ⟨hb,hk⟩:=h
   refine ⟨_,?_,hk⟩
   simp only[GY,KK,AHP,hs,hd,he,hb]
  ·exact h.elim
 ·exact c0 h
theorem WV {src dst:TypeId} {d:D} {K:D→Prop} (h:ADI mB P src dst d K):∃ r,GY P src dst d=some r∧K r:=by
 unfold ADI at h
 split at h
 ·rename_i fl rows e hs hd
  split at h
  ·rename_i he
   obtain ⟨xs,hx,hk⟩:=h
   refine ⟨_,?_,hk⟩
   simp only[GY,KK,eW,hs,hd,he,zS hx]
  ·exact h.elim
 ·exact GZ h
theorem AYJ {n:Nat} {σ:Nat→Option a6} {s₀ s:Nat→D} {op:Op} {K:D→Prop} (h:qvS mB P E n σ s₀ s op K):∃ d,qv P E n σ s₀ s true op=some d∧K d:=by
 unfold qvS at h
 split at h
 ·exact ANB h
 ·exact ZQ h
 ·exact AE5 h
 ·split at h
  ·exact AAT h
  ·exact OW h
 ·exact AAV h
 ·exact AC9 h
 ·exact AE7 h
 ·rename_i src dst x
  split at h
  ·rename_i hm
   obtain ⟨d,h1,h2⟩:=WU h
   refine ⟨d,?_,h2⟩
   simp only[qv,hm]
   exact h1
  ·rename_i hm
   have h:∃ r,GY P src dst (ev s x)=some r∧K r:=by
    split at h
    ·exact WV h
    ·exact GZ h
   obtain ⟨d,h1,h2⟩:=h
   refine ⟨d,?_,h2⟩
   simp only[qv,hm]
   exact h1
 ·rename_i c
  split at h
  ·rename_i f hf
   obtain ⟨d,h1,h2⟩:=ADB h
   refine ⟨d,?_,h2⟩
   simp only[qv,hf]
   exact h1
  ·exact c0 h
 ·exact c0 h
end
end Go.Pv
