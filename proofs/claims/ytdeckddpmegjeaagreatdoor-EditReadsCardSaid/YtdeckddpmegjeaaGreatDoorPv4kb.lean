/-
  The symbolic executor, part b: operations.
-/
import Derived.Test.YtdeckddpmegjeaaGreatDoorPv4ka
set_option linter.defProp false
set_option linter.unusedSimpArgs false
namespace Go.Pv
open Go Go.RowKit
section
variable (C : Combs) (P : Program) (E : Env)
def iO (c:Nat) (x:Option D) (K:D→Prop):Prop:=match x with
 | some d=>K d
 | none=>C.bad c
def Sy.isAny:Sy→Bool
 | .any=>true
 | _=>false
def oB (j:Int) (K:Int→Prop):Nat→Nat→Prop
 | 0,_=>C.bad 18
 | n+1,i=>aI (decide (j=Int.ofNat i)) (K (Int.ofNat i)) (oB j K n (i+1))
def R6 (σ:Nat→Option aK) (t:TypeId) (d i:D) (K:D→Prop):Prop :=
 match i,fS P t with
 | .p (.v (.int _ j)),some e =>
  match tsz? P e,DI P e with
  | some z,some r =>
   match r.isAny with
   | true=>iO C 17 (bQ P σ t d i) K
   | false =>
   match r.w == z,d with
   | true,.p tt=>match cT tt with
    | some (_,rows)=>C.rows r rows j fun y=>K (.p (.ref (r.enc y)))
    | none=>C.bad 11
   | true,.own k=>match σ k with
    | some (.arr _ _ rows)=>C.rows r rows j fun _=>K (.ptr k j.toNat 0)
    | _=>iO C 12 (bQ P σ t d i) K
   | true,.bs k off len=>match σ k with
    | some (.arr _ _ rows)=>C.nR (decide (0≤j)&&decide (j.toNat<len)) (C.rows r rows (off+j.toNat:Nat) fun _=>K (.ptr k (off+j.toNat) 0))
    | _=>iO C 13 (bQ P σ t d i) K
   | _,_=>C.bad 14
  | _,_=>C.bad 15
 | .p (.v (.int kk j)),none=>match BJ P t with
  | some (m,_)=>match decide (m≤8) with
   | true=>oB C j (fun j=>iO C 19 (bQ P σ t d (.p (.v (.int kk j)))) K) m 0
   | false=>iO C 16 (bQ P σ t d i) K
  | none=>iO C 16 (bQ P σ t d i) K
 | _,_=>iO C 16 (bQ P σ t d i) K
def MW (σ:Nat→Option aK) (t:TypeId) (d:D) (K:D→Prop):Prop :=
 match d with
 | .ptr k i o=>match σ k with
  | some (.arr _ _ rows)=>match DI P t,mK P t,tsz? P t with
   | some r,some ag,some n=>match r.w == n&&(ag||n == 1) with
    | true=>C.part r rows i o fun y=>K (.p (aE ag r y))
    | false=>C.bad 21
   | _,_,_=>C.bad 22
  | _=>iO C 23 (lK P σ t d) K
 | _=>iO C 24 (lK P σ t d) K
def PB (op:BinOp) (t:TypeId) (x y:D) (K:D→Prop):Prop :=
 match op with
 | .quo=>match x,y with
  | .p (.v (.int k a)),.p (.v (.int k' b))=>match decide (k=k') with
   | true=>C.nR (!decide (b=0)) (K (.p (.v (.int k (k.wrap (a.tdiv b))))))
   | false=>C.bad 31
  | _,_=>C.bad 32
 | .rem=>match x,y with
  | .p (.v (.int k a)),.p (.v (.int k' b))=>match decide (k=k') with
   | true=>C.nR (!decide (b=0)) (K (.p (.v (.int k (a.tmod b)))))
   | false=>C.bad 33
  | _,_=>C.bad 34
 | .add=>match x,y with
  | .p (.v (.string a)),.p (.v (.string b))=>C.nR (decide (((a.size+b.size:Nat):Int)≤9223372036854775807)) (K (.p (.v (.string (a++b)))))
  | _,_=>iO C 35 (qL P .add t x y) K
 | op=>iO C 36 (qL P op t x y) K
def GA (op:BinOp) (t:TypeId) (x y:D) (K:D→Prop):Prop :=
 match op with
 | .shl=>match x,y with
  | .p (.v (.int k a)),.p (.v (.int _ b))=>C.nR (decide (0≤b)&&decide (b≤k.bits)) (K (.p (.v (.int k (k.wrap (a*2 ^ b.toNat))))))
  | _,_=>C.bad 37
 | .shr=>match x,y with
  | .p (.v (.int k a)),.p (.v (.int _ b))=>C.nR (decide (0≤b)&&decide (b≤k.bits)) (K (.p (.v (.int k (a / 2 ^ b.toNat)))))
  | _,_=>C.bad 38
 | op=>PB C P op t x y K
def vU (d:Option D) (dflt:Nat):Option (Nat×Bool):=match d with
 | none=>some (dflt,true)
 | some (.p (.v (.int _ i)))=>some (i.toNat,decide (0≤i))
 | _=>none
def GB (σ:Nat→Option aK) (t:TypeId) (d:D) (lo hi mx:Option D) (K:D→Prop):Prop :=
 match mx with
 | some _=>iO C 41 (eO P σ t d lo hi mx) K
 | none=>match fS P t with
  | some e=>match tsz? P e with
   | some z=>match d with
    | .p tt=>match cT tt with
     | some (full,rows)=>match vU hi rows.length,vU lo 0 with
      | some (h,bh),some (l,bl)=>C.nR (zQ z rows&&(bh&&decide (h≤rows.length))&&(bl&&decide (l≤h))) (K (.p (.sl (full&&decide (h=rows.length)) ((rows.take h).drop l))))
      | _,_=>C.bad 42
     | none=>C.bad 43
    | .own k=>match σ k with
     | some (.arr _ _ rows)=>match vU hi rows.length,vU lo 0 with
      | some (h,bh),some (l,bl)=>C.nR ((bh&&decide (h≤rows.length))&&(bl&&decide (l≤h))) (aI (decide (h=l)) (K (.p (.sl false []))) (C.nR (eL σ k z) (K (.bs k l (h-l)))))
      | _,_=>C.bad 44
     | _=>iO C 45 (eO P σ t d lo hi mx) K
    | .bs k off len=>match vU hi len,vU lo 0 with
     | some (h,bh),some (l,bl)=>C.nR ((bh&&decide (h≤len))&&(bl&&decide (l≤h))) (aI (decide (h=l)) (K (.p (.sl false []))) (C.nR (eL σ k z) (K (.bs k (off+l) (h-l)))))
     | _,_=>C.bad 46
    | _=>C.bad 47
   | none=>C.bad 48
  | none=>match P.underlying t,d with
   | some .string,.p (.v (.string s))=>match vU hi s.size,vU lo 0 with
    | some (h,bh),some (l,bl)=>C.nR ((bh&&decide (h≤s.size))&&(bl&&decide (l≤h))) (K (.p (.v (.string (s.extract l h)))))
    | _,_=>C.bad 49
   | _,_=>iO C 50 (eO P σ t d lo hi mx) K
def LU (t:TypeId) (d i:D) (K:D→Prop):Prop :=
 match i,d,P.underlying t with
 | .p (.v (.int _ j)),.p (.v (.string s)),some .string=>C.byte s j fun b=>K (.p (.v (.int .u8 b)))
 | _,_,_=>iO C 51 (pR P t d i) K
def MX (σ:Nat→Option aK) (t:TypeId) (x i:D) (ok:Bool) (K:D→Prop):Prop :=
 match P.underlying t with
 | some (.map kt et) =>
  match kF P kt,i,tz? P et with
  | some kd,.p (.v k),some z =>
   match nI kd k,x with
   | true,.map m =>
    match σ m with
    | some (.map _ es)=>match mK P et,DI P et with
     | some ag,some r=>C.find kd k es ag r (K (match ok with|true=>rN (.p (.v z)) (.v (.bool false))|false=>.p (.v z)))
       fun _ y=>K (match ok with|true=>.p (.aT [aE ag r y,.v (.bool true)])|false=>.p (aE ag r y))
     | _,_=>C.bad 61
    | _=>C.bad 62
   | true,.p (.mp es)=>match mK P et,DI P et with
    | some ag,some r=>C.find kd k (w9 es) ag r (K (match ok with|true=>rN (.p (.v z)) (.v (.bool false))|false=>.p (.v z)))
      fun _ y=>K (match ok with|true=>.p (.aT [aE ag r y,.v (.bool true)])|false=>.p (aE ag r y))
    | _,_=>C.bad 66
   | _,_=>iO C 63 (kS P σ t x i ok) K
  | _,_,_=>C.bad 64
 | _=>C.bad 65
def lF:Sy→Bool
 | .int _=>true
 | .bool=>true
 | .str=>true
 | .pr a b=>lF a&&lF b
 | _=>false
def OH (fid:FuncId):Option Sh:=match P.funcs[fid]? with
 | some fn=>SV P fn.resultTypes.toList
 | none=>none
def LW (σ:Nat→Option aK) (n:Nat) (f:D) (args:List D) (K:D→Prop):Prop :=
 match eD f with
 | some (fid,a,b)=>match E fid,OH P fid with
  | some (.pure g),some s=>match fP (a++args++b) with
   | some ts=>C.call s (g ts) fun y=>K (.p (Sh.enc s y))
   | none=>match (a++args++b).mapM (dO σ 4),s.all (fun x=>lF x.2) with
    | some ts,true=>C.call s (g ts) fun y=>K (.p (Sh.enc s y))
    | _,_=>C.bad 71
  | some (.read g),some s=>C.call s (g (a++args++b) σ n) fun y=>K (.p (Sh.enc s y))
  | some (.new g),some s=>match (a++args++b).mapM (dO σ 4) with
   | some ts=>C.call s (g ts) fun y=>K (.p (Sh.enc s y))
   | none=>C.bad 74
  | some (.L7 g),some _=>match (a++args++b).mapM (dO σ 4) with
   | some ts=>C.opt (List (ByteArray×Int)) (g ts) fun es=>K (.p (.mp (RY es)))
   | none=>C.bad 75
  | some (.ext g),some s=>match fP (a++args++b) with
   | some ts=>C.call s (g ts) fun y=>K (.p (Sh.enc s y))
   | none=>C.bad 76
  | _,_=>C.bad 72
 | none=>C.bad 73
def FT (t:TypeId) (len cap:D) (K:D→Prop):Prop :=
 match fS P t with
 | some e =>
  match tsz? P e,tby? P e,tz? P e,len,cap with
  | some z,some by_,some zv,.p (.v (.int _ a)),.p (.v (.int _ b)) =>
   match decide (0<z)&&zv.cells.size == z&&zv.cells.all Value.oneCell' with
   | true=>C.nR (decide (a=b)&&decide (0≤b)&&decide (b*by_≤140737488355328)&&decide (b≤140737488355328)) (K (.p (.sl false (List.replicate a.toNat (zv.cells.toList.map .v)))))
   | false=>C.bad 18
  | _,_,_,_,_=>C.bad 19
 | none=>C.bad 20
def EX (σ:Nat→Option aK) (src dst:TypeId) (d:D) (K:D→Prop):Prop :=
 match d with
 | .own k=>match σ k,P.underlying src,P.underlying dst with
  | some (.arr _ z rows),some (.slice e),some .string=>match P.underlying e,decide (z=1) with
   | some (.int .u8),true=>C.dec (.int .u8) rows fun xs=>C.nR (decide (0<rows.length)) (K (.p (.v (.string (strOfNums xs)))))
   | _,_=>C.bad 21
  | _,_,_=>C.bad 22
 | d=>iO C 83 (tH P src dst d) K
def yY (src dst:TypeId) (d:D) (K:D→Prop):Prop :=
 match d,P.underlying src,P.underlying dst with
 | .p (.v (.string s)),some .string,some (.slice e)=>match P.underlying e with
  | some (.int .u8)=>C.nR (decide (s.size≤140737488355328)) (K (.p (.sl false (fW s))))
  | _=>C.bad 84
 | d,_,_=>iO C 82 (p8 P src dst d) K
def EY (src dst:TypeId) (d:D) (K:D→Prop):Prop :=
 match d,P.underlying src,P.underlying dst with
 | .p (.sl fl rows),some (.slice e),some .string=>match P.underlying e with
  | some (.int .u8)=>C.dec (.int .u8) rows fun xs=>K (.p (.v (.string (strOfNums xs))))
  | _=>C.bad 85
 | d,_,_=>yY C P src dst d K
def WE (n:Nat) (σ:Nat→Option aK) (s₀ s:Nat→D) (op:Op) (K:D→Prop):Prop :=
 match op with
 | .indexAddr t x i=>R6 C P σ t (ev s x) (ev s i) K
 | .makeSlice t l c=>FT C P t (ev s l) (ev s c) K
 | .load t a=>MW C P σ t (ev s a) K
 | .binOp op t x y _=>match Env.marked E 8000000000 with
  | true=>GA C P op t (ev s x) (ev s y) K
  | false=>PB C P op t (ev s x) (ev s y) K
 | .slice t x lo hi mx=>GB C P σ t (ev s x) (lo.map (ev s)) (hi.map (ev s)) (mx.map (ev s)) K
 | .index t x i=>LU C P t (ev s x) (ev s i) K
 | .lookup t x i ok=>MX C P σ t (ev s x) (ev s i) ok K
 | .convert src dst x=>match E.marked (6000000000+src) with
  | true=>EX C P σ src dst (ev s x) K
  | false=>match Env.marked E 8000000000 with
   | true=>EY C P src dst (ev s x) K
   | false=>yY C P src dst (ev s x) K
 | .call c=>match c.callee with
  | .value f=>LW C P E σ n (ev s f) (c.args.toList.map (ev s)) K
  | _=>iO C 81 (qv P E n σ s₀ s true op) K
 | op=>iO C 82 (qv P E n σ s₀ s true op) K
end
section
variable {P : Program} {E : Env}
theorem bM {c:Nat} {x:Option D} {K:D→Prop} (h:iO gE c x K):∃ d,x=some d∧K d:=by
 unfold iO at h
 split at h
 ·exact ⟨_,rfl,h⟩
 ·exact h.elim
theorem J8 (l:List T):w8 (l.map .p) = .p (.agg l):=by unfold w8;rw[BD]
theorem mQ {j:Int} {K:Int→Prop}:∀ {n i:Nat},oB gE j K n i→∃ q,j=q∧K q
 | 0,_,h=>h.elim
 | n+1,i,h=>by
  unfold oB at h
  cases hd:decide (j=Int.ofNat i) with
  | true=>rw[hd] at h;exact ⟨_,of_decide_eq_true hd,h⟩
  | false=>rw[hd] at h;exact mQ (n:=n) (i:=i+1) h
theorem JT {σ:Nat→Option aK} {t:TypeId} {d i:D} {K:D→Prop} (h:R6 gE P σ t d i K):∃ r,bQ P σ t d i=some r∧K r:=by
 unfold R6 at h
 split at h
 ·rename_i kk j e he
  split at h
  ·rename_i z r hz hr
   split at h
   ·exact bM h
   split at h
   ·rename_i tt hw
    have hw:r.w=z:=by simpa using hw
    split at h
    ·rename_i f rows hrows
     obtain ⟨y,h0,h1,h2⟩:=h
     refine ⟨_,?_,h2⟩
     unfold bQ
     have:¬ j<0:=by omega
     simp only[this,if_false,he,hz,hrows,h1,Sy.cO,hw,if_true]
    ·exact h.elim
   ·rename_i k hw
    have hw:r.w=z:=by simpa using hw
    split at h
    ·rename_i ro zz rows hσ
     obtain ⟨y,h0,h1,h2⟩:=h
     refine ⟨_,?_,h2⟩
     unfold bQ
     have:¬ j<0:=by omega
     have hR:(σ k).bind bX=some (aG rows):=by rw[hσ];rfl
     simp only[this,if_false,he,hz,hR,pRows_get?,h1,Option.map_some,List.length_map,Sy.cO,hw,if_true]
    ·exact bM h
   ·rename_i k off len hw
    have hw:r.w=z:=by simpa using hw
    split at h
    ·rename_i ro zz rows hσ
     obtain ⟨hb,y,h0,h1,h2⟩:=h
     simp only[Bool.and_eq_true,decide_eq_true_eq] at hb
     refine ⟨_,?_,h2⟩
     unfold bQ
     have:¬ j<0:=by omega
     have hR:(σ k).bind bX=some (aG rows):=by rw[hσ];rfl
     simp only[Int.toNat_natCast] at h1
     simp only[this,if_false,he,hz,hb.2,if_true,hR,pRows_get?,h1,Option.map_some,List.length_map,Sy.cO,hw,if_true]
    ·exact bM h
   ·exact h.elim
  ·exact h.elim
 ·split at h
  ·split at h
   ·obtain ⟨_,rfl,h⟩:=mQ h
    exact bM h
   ·exact bM h
  ·exact bM h
 ·exact bM h
theorem FP {σ:Nat→Option aK} {t:TypeId} {d:D} {K:D→Prop} (h:MW gE P σ t d K):∃ r,lK P σ t d=some r∧K r:=by
 unfold MW at h
 split at h
 ·rename_i k i o
  split at h
  ·rename_i ro zz rows hσ
   split at h
   ·rename_i r ag n hr hag hn
    split at h
    ·rename_i hw
     simp only[Bool.and_eq_true,beq_iff_eq,Bool.or_eq_true] at hw
     obtain ⟨row,y,h1,h2,h3,h4⟩:=h
     refine ⟨_,?_,h4⟩
     have hR:(σ k).bind bX=some (aG rows):=by rw[hσ];rfl
     unfold lK
     simp only[hag,hn,hR,pRows_get?,h1,Option.map_some]
     cases ag with
     | true =>
      have:o+n≤(row.map D.p).length:=by simp;omega
      simp only[if_true,this]
      rw[←List.map_drop,←List.map_take,←hw.1,h3,J8]
      rfl
     | false =>
      have hn1:n=1:=by simpa using hw.2
      have hw1:r.w=1:=by omega
      have hl:(r.enc y).length=1:=by rw[Sy.cO];exact hw1
      obtain ⟨x,hx⟩:=List.length_eq_one_iff.1 hl
      have:row[o]? = some x:=by
       have h5:((row.drop o).take r.w)[0]? = some x:=by rw[h3,hx];rfl
       rw[hw1] at h5
       simpa [List.getElem?_take,List.getElem?_drop] using h5
      simp only[Bool.false_eq_true,if_false,List.getElem?_map,this,Option.map_some,aE,hx,PU]
    ·exact h.elim
   ·exact h.elim
  ·exact bM h
 ·exact bM h
theorem wI {op:BinOp} {t:TypeId} {x y:D} {K:D→Prop} (h:PB gE P op t x y K):∃ r,qL P op t x y=some r∧K r:=by
 unfold PB at h
 split at h
 ·split at h
  ·rename_i k a k' b
   split at h
   ·rename_i hk
    have hk:=of_decide_eq_true hk
    subst hk
    obtain ⟨hb,h⟩:=h
    have hb:¬ b=0:=by simpa using hb
    exact ⟨_,by simp[qL,mI,vT,BL,zK,hb],h⟩
   ·exact h.elim
  ·exact h.elim
 ·split at h
  ·rename_i k a k' b
   split at h
   ·rename_i hk
    have hk:=of_decide_eq_true hk
    subst hk
    obtain ⟨hb,h⟩:=h
    have hb:¬ b=0:=by simpa using hb
    exact ⟨_,by simp[qL,mI,vT,BL,zK,hb],h⟩
   ·exact h.elim
  ·exact h.elim
 ·split at h
  ·rename_i a b
   obtain ⟨hb,h⟩:=h
   have hb:((a.size+b.size:Nat):Int)≤9223372036854775807:=of_decide_eq_true hb
   exact ⟨_,by simp only[qL,mI,vT,BL,GF,if_pos hb,Option.map_some],h⟩
  ·exact bM h
 ·exact bM h
theorem DD {op:BinOp} {t:TypeId} {x y:D} {K:D→Prop} (h:GA gE P op t x y K):∃ r,qL P op t x y=some r∧K r:=by
 unfold GA at h
 split at h
 ·split at h
  ·rename_i k a k' b
   obtain ⟨hb,h⟩:=h
   rw[Bool.and_eq_true,decide_eq_true_eq,decide_eq_true_eq] at hb
   exact ⟨_,by simp[qL,mI,vT,BL,hb],h⟩
  ·exact h.elim
 ·split at h
  ·rename_i k a k' b
   obtain ⟨hb,h⟩:=h
   rw[Bool.and_eq_true,decide_eq_true_eq,decide_eq_true_eq] at hb
   exact ⟨_,by simp[qL,mI,vT,BL,hb],h⟩
  ·exact h.elim
 ·exact wI h
theorem dA {d:Option D} {dflt m hi:Nat} {b:Bool} (h:vU d dflt=some (m,b)) (hb:(b&&decide (m≤hi))=true):gX d dflt hi=some m:=by
 simp only[Bool.and_eq_true,decide_eq_true_eq] at hb
 unfold vU at h
 split at h
 ·cases h;simp[gX,hb.2]
 ·rename_i k i
  cases h
  have h0:0≤i:=of_decide_eq_true hb.1
  have h1:i≤hi:=by have:=hb.2;omega
  simp[gX,h0,h1]
 ·cases h
theorem DF {σ:Nat→Option aK} {t:TypeId} {d:D} {lo hi mx:Option D} {K:D→Prop} (h:GB gE P σ t d lo hi mx K):∃ r,eO P σ t d lo hi mx=some r∧K r:=by
 unfold GB at h
 split at h
 ·exact bM h
 ·split at h
  ·rename_i e he
   split at h
   ·rename_i z hz
    split at h
    ·rename_i tt
     split at h
     ·rename_i full rows hrows
      split at h
      ·rename_i hN bh lN bl h1 h2
       obtain ⟨hb,h⟩:=h
       rw[Bool.and_eq_true,Bool.and_eq_true] at hb
       refine ⟨_,?_,h⟩
       unfold eO
       simp only[he,hz,hrows,hb.1.1,if_true,dA h1 hb.1.2,dA h2 hb.2]
      ·exact h.elim
     ·exact h.elim
    ·rename_i k
     split at h
     ·rename_i ro zz rows hσ
      split at h
      ·rename_i hN bh lN bl h1 h2
       obtain ⟨hb,h⟩:=h
       rw[Bool.and_eq_true] at hb
       have hR:(σ k).bind bX=some (aG rows):=by rw[hσ];rfl
       rw[jX] at h
       by_cases heq:hN=lN
       ·refine ⟨_,?_,h.1 (by simpa using heq)⟩
        unfold eO
        simp only[he,hz,hR,aP,dA h1 hb.1,dA h2 hb.2];rw[if_pos heq]
       ·obtain ⟨hw,hk⟩:=h.2 (by simpa using heq)
        refine ⟨_,?_,hk⟩
        unfold eO
        simp only[he,hz,hR,aP,dA h1 hb.1,dA h2 hb.2];rw[if_neg heq,if_pos hw]
      ·exact h.elim
     ·exact bM h
    ·rename_i k off len
     split at h
     ·rename_i hN bh lN bl h1 h2
      obtain ⟨hb,h⟩:=h
      rw[Bool.and_eq_true] at hb
      rw[jX] at h
      by_cases heq:hN=lN
      ·refine ⟨_,?_,h.1 (by simpa using heq)⟩
       unfold eO
       simp only[he,hz,dA h1 hb.1,dA h2 hb.2];rw[if_pos heq]
      ·obtain ⟨hw,hk⟩:=h.2 (by simpa using heq)
       refine ⟨_,?_,hk⟩
       unfold eO
       simp only[he,hz,dA h1 hb.1,dA h2 hb.2];rw[if_neg heq,if_pos hw]
     ·exact h.elim
    ·exact h.elim
   ·exact h.elim
  ·rename_i he
   split at h
   ·rename_i s hu
    split at h
    ·rename_i hN bh lN bl h1 h2
     obtain ⟨hb,h⟩:=h
     rw[Bool.and_eq_true] at hb
     refine ⟨_,?_,h⟩
     unfold eO
     simp only[he,hu,dA h1 hb.1,dA h2 hb.2]
    ·exact h.elim
   ·exact bM h
theorem ES {t:TypeId} {d i:D} {K:D→Prop} (h:LU gE P t d i K):∃ r,pR P t d i=some r∧K r:=by
 unfold LU at h
 split at h
 ·rename_i kk j s hu
  obtain ⟨b,h0,h1,h2⟩:=h
  refine ⟨_,?_,h2⟩
  unfold pR
  have:¬ j<0:=by omega
  simp only[this,if_false,hu,h1,Option.map_some]
 ·exact bM h
theorem FR {σ:Nat→Option aK} {t:TypeId} {x i:D} {ok:Bool} {K:D→Prop} (h:MX gE P σ t x i ok K):∃ r,kS P σ t x i ok=some r∧K r:=by
 unfold MX at h
 split at h
 ·rename_i kt et hu
  split at h
  ·rename_i kd k z hk hz
   split at h
   ·rename_i m hkey
    split at h
    ·rename_i ro es hσ
     split at h
     ·rename_i ag r hag hr
      rcases h with ⟨h1,h2⟩|⟨i,y,h1,h2⟩
      ·refine ⟨_,?_,h2⟩
       unfold kS
       simp only[hu,hk,hz,hkey,hσ,h1]
       cases ok<;>rfl
      ·refine ⟨_,?_,h2⟩
       unfold kS
       simp only[hu,hk,hz,hkey,hσ,h1]
       cases ok<;>rfl
     ·exact h.elim
    ·exact h.elim
   ·rename_i es hkey
    split at h
    ·rename_i ag r hag hr
     rcases h with ⟨h1,h2⟩|⟨i,y,h1,h2⟩
     ·refine ⟨_,?_,h2⟩
      unfold kS
      simp only[hu,hk,hz,hkey,h1]
      cases ok<;>rfl
     ·refine ⟨_,?_,h2⟩
      unfold kS
      simp only[hu,hk,hz,hkey,h1]
      cases ok<;>rfl
    ·exact h.elim
   ·exact bM h
  ·exact h.elim
 ·exact h.elim
theorem kB:∀ (r:Sy),lF r=true→∀ (x:r.den) (n:Nat),(r.enc x).all (T.iU n)=true
 | .int _,_,x,n=>by cases n<;>simp[Sy.enc,T.iU]
 | .bool,_,x,n=>by cases n<;>simp[Sy.enc,T.iU]
 | .str,_,x,n=>by cases n<;>simp[Sy.enc,T.iU]
 | .pr a b,h,x,n=>by
  simp only[lF,Bool.and_eq_true] at h
  simp only[Sy.enc,List.all_append,Bool.and_eq_true]
  exact ⟨kB a h.1 x.1 n,kB b h.2 x.2 n⟩
theorem pL {ag:Bool} {r:Sy} (h:lF r=true) (x:r.den) (n:Nat):T.iU (n+1) (aE ag r x)=true:=by
 have:=kB r h x (n+1)
 cases ag with
 | true=>exact kB r h x n
 | false =>
  simp only[aE]
  cases he:r.enc x with
  | nil=>rfl
  | cons a l=>rw[he] at this;simp only[List.all_cons,Bool.and_eq_true] at this;exact this.1
theorem wP:∀ (s:Sh),s.all (fun x=>lF x.2)=true→∀ (y:Sh.den s) (n:Nat),(Sh.dI s y).all (T.iU (n+1))=true
 | [],_,_,_=>rfl
 | [a],h,y,n=>by
  simp only[List.all_cons,List.all_nil,Bool.and_true] at h
  simp only[Sh.dI,List.all_cons,List.all_nil,Bool.and_true]
  exact pL h y n
 | a::b::l,h,y,n=>by
  rw[List.all_cons,Bool.and_eq_true] at h
  simp only[Sh.dI,List.all_cons,Bool.and_eq_true] at *
  have:=wP (b::l) (by rw[List.all_cons,Bool.and_eq_true];exact h.2) y.2 n
  exact ⟨pL h.1 y.1 n,this⟩
theorem PN {s:Sh} (h:s.all (fun x=>lF x.2)=true) (y:Sh.den s):(Sh.enc s y).flat=true:=by
 unfold T.flat
 match s,h,y with
 | [],h,y=>rfl
 | [a],h,y =>
  simp only[List.all_cons,List.all_nil,Bool.and_true] at h
  exact pL h y 2
 | a::b::l,h,y=>exact wP (a::b::l) h y 1
theorem EU {σ:Nat→Option aK} {n:Nat} {f:D} {args:List D} {K:D→Prop} (h:LW gE P E σ n f args K):∃ r,iA E σ n f args=some r∧K r:=by
 unfold LW at h
 split at h
 ·rename_i fid a b hc
  split at h
  ·rename_i g s hE hs
   split at h
   ·rename_i ts hts
    obtain ⟨y,h1,h2⟩:=h
    refine ⟨_,?_,h2⟩
    unfold iA
    simp only[hc,hE,hts,h1,Option.map_some]
   ·rename_i hts
    split at h
    ·rename_i ts hm hfl
     obtain ⟨y,h1,h2⟩:=h
     refine ⟨_,?_,h2⟩
     unfold iA
     simp only[hc,hE,hts,hm,h1,PN hfl y,if_true]
    ·exact h.elim
  ·rename_i g s hE hs
   obtain ⟨y,h1,h2⟩:=h
   refine ⟨_,?_,h2⟩
   unfold iA
   simp only[hc,hE,h1,Option.map_some]
  ·rename_i g s hE hs
   split at h
   ·rename_i ts hts
    obtain ⟨y,h1,h2⟩:=h
    refine ⟨_,?_,h2⟩
    unfold iA
    simp only[hc,hE,hts,h1,Option.map_some]
   ·exact h.elim
  ·rename_i g s hE hs
   split at h
   ·rename_i ts hts
    obtain ⟨y,h1,h2⟩:=h
    refine ⟨_,?_,h2⟩
    unfold iA
    simp only[hc,hE,hts,h1,Option.map_some]
   ·exact h.elim
  ·rename_i g s hE hs
   split at h
   ·rename_i ts hts
    obtain ⟨y,h1,h2⟩:=h
    refine ⟨_,?_,h2⟩
    unfold iA
    simp only[hc,hE,hts,h1,Option.map_some]
   ·exact h.elim
  ·exact h.elim
 ·exact h.elim
theorem CP {t:TypeId} {a b:D} {K:D→Prop} (h:FT gE P t a b K):∃ d,CO P t a b=some d∧K d:=by
 unfold FT at h
 split at h
 ·rename_i e he
  split at h
  ·rename_i z by_ zv k1 x k2 y hz hby hzv
   split at h
   ·rename_i hc
    obtain ⟨hb,hk⟩:=h
    refine ⟨_,?_,hk⟩
    simp only[CO,he,hz,hby,hzv,hc,hb,Bool.and_self]
   ·exact h.elim
  ·exact h.elim
 ·exact h.elim
theorem nB:∀ {rows:List (List T)} {xs:List Int},fX rows=xs.map (Sy.int .u8).enc→nA rows=some xs
 | [],[],_=>rfl
 | [],_::_,h=>by cases h
 | _::_,[],h=>by cases h
 | r::rows,n::xs,h=>by
  unfold fX at h
  rw[List.map_cons,List.map_cons] at h
  obtain ⟨h1,h2⟩:=List.cons.inj h
  have ih:=nB (rows:=rows) (xs:=xs) h2
  match r,h1 with
  | [],h1=>cases h1
  | [t],h1 =>
   have h3:T.canon 0 t = .v (.int .u8 n):=(List.cons.inj h1).1
   have e:t = .v (.int .u8 n):=by
    cases t with
    | v v =>
     unfold T.canon at h3
     split at h3<;>first|exact h3|cases h3
    | _=>simp[T.canon] at h3
   subst e
   simp only[nA,ih,Option.map_some]
  | _::_::_,h1=>cases (List.cons.inj h1).2
theorem BR {σ:Nat→Option aK} {src dst:TypeId} {d:D} {K:D→Prop} (h:EX gE P σ src dst d K):∃ r,wN P σ src dst d=some r∧K r:=by
 unfold EX at h
 split at h
 ·split at h
  ·rename_i hσ hs hd
   split at h
   ·rename_i he hz
    obtain ⟨xs,hx,hb,hk⟩:=h
    refine ⟨_,?_,hk⟩
    simp only[wN,hσ,hs,hd,he,nB hx]
    rw[if_pos ⟨of_decide_eq_true hz,of_decide_eq_true hb⟩]
   ·exact h.elim
  ·exact h.elim
 ·rename_i hn
  obtain ⟨r,h1,h2⟩:=bM h
  refine ⟨r,?_,h2⟩
  unfold wN
  split
  ·exact absurd rfl (hn _)
  ·exact h1
theorem p9 {src dst:TypeId} {d:D} {K:D→Prop} (h:yY gE P src dst d K):∃ r,p8 P src dst d=some r∧K r:=by
 unfold yY at h
 split at h
 ·rename_i s e hs hd
  split at h
  ·rename_i he
   obtain ⟨hb,hk⟩:=h
   refine ⟨_,?_,hk⟩
   simp only[p8,tH,G2,hs,hd,he,hb]
  ·exact h.elim
 ·exact bM h
theorem BS {src dst:TypeId} {d:D} {K:D→Prop} (h:EY gE P src dst d K):∃ r,p8 P src dst d=some r∧K r:=by
 unfold EY at h
 split at h
 ·rename_i fl rows e hs hd
  split at h
  ·rename_i he
   obtain ⟨xs,hx,hk⟩:=h
   refine ⟨_,?_,hk⟩
   simp only[p8,tH,cT,hs,hd,he,nB hx]
  ·exact h.elim
 ·exact p9 h
theorem NZ {n:Nat} {σ:Nat→Option aK} {s₀ s:Nat→D} {op:Op} {K:D→Prop} (h:WE gE P E n σ s₀ s op K):∃ d,qv P E n σ s₀ s true op=some d∧K d:=by
 unfold WE at h
 split at h
 ·exact JT h
 ·exact CP h
 ·exact FP h
 ·split at h
  ·exact DD h
  ·exact wI h
 ·exact DF h
 ·exact ES h
 ·exact FR h
 ·rename_i src dst x
  split at h
  ·rename_i hm
   obtain ⟨d,h1,h2⟩:=BR h
   refine ⟨d,?_,h2⟩
   simp only[qv,hm]
   exact h1
  ·rename_i hm
   have h:∃ r,p8 P src dst (ev s x)=some r∧K r:=by
    split at h
    ·exact BS h
    ·exact p9 h
   obtain ⟨d,h1,h2⟩:=h
   refine ⟨d,?_,h2⟩
   simp only[qv,hm]
   exact h1
 ·rename_i c
  split at h
  ·rename_i f hf
   obtain ⟨d,h1,h2⟩:=EU h
   refine ⟨d,?_,h2⟩
   simp only[qv,hf]
   exact h1
  ·exact bM h
 ·exact bM h
end
end Go.Pv
