/-
  The symbolic executor, part b: operations.
-/
import Derived.Test.YtokajdeigdelgaaGreatDoorPv5ka
set_option linter.defProp false
set_option linter.unusedSimpArgs false
namespace Go.Pv
open Go Go.RowKit
section
variable (C : Combs) (P : Program) (E : Env)
def jC (c:Nat) (x:Option D) (K:D→Prop):Prop:=match x with
 | some d=>K d
 | none=>C.bad c
def Sy.isAny:Sy→Bool
 | .any=>true
 | _=>false
def pE (j:Int) (K:Int→Prop):Nat→Nat→Prop
 | 0,_=>C.bad 18
 | n+1,i=>aE (decide (j=Int.ofNat i)) (K (Int.ofNat i)) (pE j K n (i+1))
def VC (σ:Nat→Option aI) (t:TypeId) (d i:D) (K:D→Prop):Prop :=
 match i,gB P t with
 | .p (.v (.int _ j)),some e =>
  match tsz? P e,FJ P e with
  | some z,some r =>
   match r.isAny with
   | true=>jC C 17 (bP P σ t d i) K
   | false =>
   match r.w == z,d with
   | true,.p tt=>match cT tt with
    | some (_,rows)=>C.rows r rows j fun y=>K (.p (.ref (r.enc y)))
    | none=>C.bad 11
   | true,.own k=>match σ k with
    | some (.arr _ _ rows)=>C.rows r rows j fun _=>K (.ptr k j.toNat 0)
    | _=>jC C 12 (bP P σ t d i) K
   | true,.bs k off len=>match σ k with
    | some (.arr _ _ rows)=>C.oU (decide (0≤j)&&decide (j.toNat<len)) (C.rows r rows (off+j.toNat:Nat) fun _=>K (.ptr k (off+j.toNat) 0))
    | _=>jC C 13 (bP P σ t d i) K
   | _,_=>C.bad 14
  | _,_=>C.bad 15
 | .p (.v (.int kk j)),none=>match DD P t with
  | some (m,_)=>match decide (m≤8) with
   | true=>pE C j (fun j=>jC C 19 (bP P σ t d (.p (.v (.int kk j)))) K) m 0
   | false=>jC C 16 (bP P σ t d i) K
  | none=>jC C 16 (bP P σ t d i) K
 | _,_=>jC C 16 (bP P σ t d i) K
def O3 (σ:Nat→Option aI) (t:TypeId) (d:D) (K:D→Prop):Prop :=
 match d with
 | .ptr k i o=>match σ k with
  | some (.arr _ _ rows)=>match FJ P t,nR P t,tsz? P t with
   | some r,some ag,some n=>match r.w == n&&(ag||n == 1) with
    | true=>C.part r rows i o fun y=>K (.p (aG ag r y))
    | false=>C.bad 21
   | _,_,_=>C.bad 22
  | _=>jC C 23 (mH P σ t d) K
 | _=>jC C 24 (mH P σ t d) K
def SD (op:BinOp) (t:TypeId) (x y:D) (K:D→Prop):Prop :=
 match op with
 | .quo=>match x,y with
  | .p (.v (.int k a)),.p (.v (.int k' b))=>match decide (k=k') with
   | true=>C.oU (!decide (b=0)) (K (.p (.v (.int k (k.wrap (a.tdiv b))))))
   | false=>C.bad 31
  | _,_=>C.bad 32
 | .rem=>match x,y with
  | .p (.v (.int k a)),.p (.v (.int k' b))=>match decide (k=k') with
   | true=>C.oU (!decide (b=0)) (K (.p (.v (.int k (a.tmod b)))))
   | false=>C.bad 33
  | _,_=>C.bad 34
 | .add=>match x,y with
  | .p (.v (.string a)),.p (.v (.string b))=>C.oU (decide (((a.size+b.size:Nat):Int)≤9223372036854775807)) (K (.p (.v (.string (a++b)))))
  | _,_=>jC C 35 (sE P .add t x y) K
 | op=>jC C 36 (sE P op t x y) K
def IC (op:BinOp) (t:TypeId) (x y:D) (K:D→Prop):Prop :=
 match op with
 | .shl=>match x,y with
  | .p (.v (.int k a)),.p (.v (.int _ b))=>C.oU (decide (0≤b)&&decide (b≤k.bits)) (K (.p (.v (.int k (k.wrap (a*2 ^ b.toNat))))))
  | _,_=>C.bad 37
 | .shr=>match x,y with
  | .p (.v (.int k a)),.p (.v (.int _ b))=>C.oU (decide (0≤b)&&decide (b≤k.bits)) (K (.p (.v (.int k (a / 2 ^ b.toNat)))))
  | _,_=>C.bad 38
 | op=>SD C P op t x y K
def xI (d:Option D) (dflt:Nat):Option (Nat×Bool):=match d with
 | none=>some (dflt,true)
 | some (.p (.v (.int _ i)))=>some (i.toNat,decide (0≤i))
 | _=>none
def ID (σ:Nat→Option aI) (t:TypeId) (d:D) (lo hi mx:Option D) (K:D→Prop):Prop :=
 match mx with
 | some _=>jC C 41 (eX P σ t d lo hi mx) K
 | none=>match gB P t with
  | some e=>match tsz? P e with
   | some z=>match d with
    | .p tt=>match cT tt with
     | some (full,rows)=>match xI hi rows.length,xI lo 0 with
      | some (h,bh),some (l,bl)=>C.oU (BS z rows&&(bh&&decide (h≤rows.length))&&(bl&&decide (l≤h))) (K (.p (.sl (full&&decide (h=rows.length)) ((rows.take h).drop l))))
      | _,_=>C.bad 42
     | none=>C.bad 43
    | .own k=>match σ k with
     | some (.arr _ _ rows)=>match xI hi rows.length,xI lo 0 with
      | some (h,bh),some (l,bl)=>C.oU ((bh&&decide (h≤rows.length))&&(bl&&decide (l≤h))) (aE (decide (h=l)) (K (.p (.sl false []))) (C.oU (eS σ k z) (K (.bs k l (h-l)))))
      | _,_=>C.bad 44
     | _=>jC C 45 (eX P σ t d lo hi mx) K
    | .bs k off len=>match xI hi len,xI lo 0 with
     | some (h,bh),some (l,bl)=>C.oU ((bh&&decide (h≤len))&&(bl&&decide (l≤h))) (aE (decide (h=l)) (K (.p (.sl false []))) (C.oU (eS σ k z) (K (.bs k (off+l) (h-l)))))
     | _,_=>C.bad 46
    | _=>C.bad 47
   | none=>C.bad 48
  | none=>match P.underlying t,d with
   | some .string,.p (.v (.string s))=>match xI hi s.size,xI lo 0 with
    | some (h,bh),some (l,bl)=>C.oU ((bh&&decide (h≤s.size))&&(bl&&decide (l≤h))) (K (.p (.v (.string (s.extract l h)))))
    | _,_=>C.bad 49
   | _,_=>jC C 50 (eX P σ t d lo hi mx) K
def N0 (t:TypeId) (d i:D) (K:D→Prop):Prop :=
 match i,d,P.underlying t with
 | .p (.v (.int _ j)),.p (.v (.string s)),some .string=>C.byte s j fun b=>K (.p (.v (.int .u8 b)))
 | _,_,_=>jC C 51 (q9 P t d i) K
def O4 (σ:Nat→Option aI) (t:TypeId) (x i:D) (ok:Bool) (K:D→Prop):Prop :=
 match P.underlying t with
 | some (.map kt et) =>
  match kX P kt,i,tz? P et with
  | some kd,.p (.v k),some z =>
   match oJ kd k,x with
   | true,.map m =>
    match σ m with
    | some (.map _ es)=>match nR P et,FJ P et with
     | some ag,some r=>C.find kd k es ag r (K (match ok with|true=>sM (.p (.v z)) (.v (.bool false))|false=>.p (.v z)))
       fun _ y=>K (match ok with|true=>.p (.bB [aG ag r y,.v (.bool true)])|false=>.p (aG ag r y))
     | _,_=>C.bad 61
    | _=>C.bad 62
   | true,.p (.mp es)=>match nR P et,FJ P et with
    | some ag,some r=>C.find kd k (zC es) ag r (K (match ok with|true=>sM (.p (.v z)) (.v (.bool false))|false=>.p (.v z)))
      fun _ y=>K (match ok with|true=>.p (.bB [aG ag r y,.v (.bool true)])|false=>.p (aG ag r y))
    | _,_=>C.bad 66
   | _,_=>jC C 63 (lO P σ t x i ok) K
  | _,_,_=>C.bad 64
 | _=>C.bad 65
def mB:Sy→Bool
 | .int _=>true
 | .bool=>true
 | .str=>true
 | .pr a b=>mB a&&mB b
 | _=>false
def Q2 (fid:FuncId):Option Sh:=match P.funcs[fid]? with
 | some fn=>V2 P fn.resultTypes.toList
 | none=>none
def N2 (σ:Nat→Option aI) (n:Nat) (f:D) (args:List D) (K:D→Prop):Prop :=
 match eD f with
 | some (fid,a,b)=>match E fid,Q2 P fid with
  | some (.pure g),some s=>match fY (a++args++b) with
   | some ts=>C.call s (g ts) fun y=>K (.p (Sh.enc s y))
   | none=>match (a++args++b).mapM (dN σ 4),s.all (fun x=>mB x.2) with
    | some ts,true=>C.call s (g ts) fun y=>K (.p (Sh.enc s y))
    | _,_=>C.bad 71
  | some (.read g),some s=>C.call s (g (a++args++b) σ n) fun y=>K (.p (Sh.enc s y))
  | some (.new g),some s=>match (a++args++b).mapM (dN σ 4) with
   | some ts=>C.call s (g ts) fun y=>K (.p (Sh.enc s y))
   | none=>C.bad 74
  | some (.OD g),some _=>match (a++args++b).mapM (dN σ 4) with
   | some ts=>C.opt (List (ByteArray×Int)) (g ts) fun es=>K (.p (.mp (U3 es)))
   | none=>C.bad 75
  | some (.ext g),some s=>match fY (a++args++b) with
   | some ts=>C.call s (g ts) fun y=>K (.p (Sh.enc s y))
   | none=>C.bad 76
  | _,_=>C.bad 72
 | none=>C.bad 73
def HP (t:TypeId) (len cap:D) (K:D→Prop):Prop :=
 match gB P t with
 | some e =>
  match tsz? P e,tby? P e,tz? P e,len,cap with
  | some z,some by_,some zv,.p (.v (.int _ a)),.p (.v (.int _ b)) =>
   match decide (0<z)&&zv.cells.size == z&&zv.cells.all Value.oneCell' with
   | true=>C.oU (decide (a=b)&&decide (0≤b)&&decide (b*by_≤140737488355328)&&decide (b≤140737488355328)) (K (.p (.sl false (List.replicate a.toNat (zv.cells.toList.map .v)))))
   | false=>C.bad 18
  | _,_,_,_,_=>C.bad 19
 | none=>C.bad 20
def GR (σ:Nat→Option aI) (src dst:TypeId) (d:D) (K:D→Prop):Prop :=
 match d with
 | .own k=>match σ k,P.underlying src,P.underlying dst with
  | some (.arr _ z rows),some (.slice e),some .string=>match P.underlying e,decide (z=1) with
   | some (.int .u8),true=>C.dec (.int .u8) rows fun xs=>C.oU (decide (0<rows.length)) (K (.p (.v (.string (strOfNums xs)))))
   | _,_=>C.bad 21
  | _,_,_=>C.bad 22
 | d=>jC C 83 (uJ P src dst d) K
def BC (src dst:TypeId) (d:D) (K:D→Prop):Prop :=
 match d,P.underlying src,P.underlying dst with
 | .p (.v (.string s)),some .string,some (.slice e)=>match P.underlying e with
  | some (.int .u8)=>C.oU (decide (s.size≤140737488355328)) (K (.p (.sl false (gI s))))
  | _=>C.bad 84
 | d,_,_=>jC C 82 (rR P src dst d) K
def GS (src dst:TypeId) (d:D) (K:D→Prop):Prop :=
 match d,P.underlying src,P.underlying dst with
 | .p (.sl fl rows),some (.slice e),some .string=>match P.underlying e with
  | some (.int .u8)=>C.dec (.int .u8) rows fun xs=>K (.p (.v (.string (strOfNums xs))))
  | _=>C.bad 85
 | d,_,_=>BC C P src dst d K
def Z4 (n:Nat) (σ:Nat→Option aI) (s₀ s:Nat→D) (op:Op) (K:D→Prop):Prop :=
 match op with
 | .indexAddr t x i=>VC C P σ t (ev s x) (ev s i) K
 | .makeSlice t l c=>HP C P t (ev s l) (ev s c) K
 | .load t a=>O3 C P σ t (ev s a) K
 | .binOp op t x y _=>match Env.marked E 8000000000 with
  | true=>IC C P op t (ev s x) (ev s y) K
  | false=>SD C P op t (ev s x) (ev s y) K
 | .slice t x lo hi mx=>ID C P σ t (ev s x) (lo.map (ev s)) (hi.map (ev s)) (mx.map (ev s)) K
 | .index t x i=>N0 C P t (ev s x) (ev s i) K
 | .lookup t x i ok=>O4 C P σ t (ev s x) (ev s i) ok K
 | .convert src dst x=>match E.marked (6000000000+src) with
  | true=>GR C P σ src dst (ev s x) K
  | false=>match Env.marked E 8000000000 with
   | true=>GS C P src dst (ev s x) K
   | false=>BC C P src dst (ev s x) K
 | .call c=>match c.callee with
  | .value f=>N2 C P E σ n (ev s f) (c.args.toList.map (ev s)) K
  | _=>jC C 81 (qv P E n σ s₀ s true op) K
 | op=>jC C 82 (qv P E n σ s₀ s true op) K
end
section
variable {P : Program} {E : Env}
theorem bK {c:Nat} {x:Option D} {K:D→Prop} (h:jC gN c x K):∃ d,x=some d∧K d:=by
 unfold jC at h
 split at h
 ·exact ⟨_,rfl,h⟩
 ·exact h.elim
theorem MF (l:List T):zB (l.map .p) = .p (.agg l):=by unfold zB;rw[C7]
theorem nX {j:Int} {K:Int→Prop}:∀ {n i:Nat},pE gN j K n i→∃ q,j=q∧K q
 | 0,_,h=>h.elim
 | n+1,i,h=>by
  unfold pE at h
  cases hd:decide (j=Int.ofNat i) with
  | true=>rw[hd] at h;exact ⟨_,of_decide_eq_true hd,h⟩
  | false=>rw[hd] at h;exact nX (n:=n) (i:=i+1) h
theorem L0 {σ:Nat→Option aI} {t:TypeId} {d i:D} {K:D→Prop} (h:VC gN P σ t d i K):∃ r,bP P σ t d i=some r∧K r:=by
 unfold VC at h
 split at h
 ·rename_i kk j e he
  split at h
  ·rename_i z r hz hr
   split at h
   ·exact bK h
   split at h
   ·rename_i tt hw
    have hw:r.w=z:=by simpa using hw
    split at h
    ·rename_i f rows hrows
     obtain ⟨y,h0,h1,h2⟩:=h
     refine ⟨_,?_,h2⟩
     unfold bP
     have:¬ j<0:=by omega
     simp only[this,if_false,he,hz,hrows,h1,Sy.cB,hw,if_true]
    ·exact h.elim
   ·rename_i k hw
    have hw:r.w=z:=by simpa using hw
    split at h
    ·rename_i ro zz rows hσ
     obtain ⟨y,h0,h1,h2⟩:=h
     refine ⟨_,?_,h2⟩
     unfold bP
     have:¬ j<0:=by omega
     have hR:(σ k).bind cA=some (aD rows):=by rw[hσ];rfl
     simp only[this,if_false,he,hz,hR,pRows_get?,h1,Option.map_some,List.length_map,Sy.cB,hw,if_true]
    ·exact bK h
   ·rename_i k off len hw
    have hw:r.w=z:=by simpa using hw
    split at h
    ·rename_i ro zz rows hσ
     obtain ⟨hb,y,h0,h1,h2⟩:=h
     simp only[Bool.and_eq_true,decide_eq_true_eq] at hb
     refine ⟨_,?_,h2⟩
     unfold bP
     have:¬ j<0:=by omega
     have hR:(σ k).bind cA=some (aD rows):=by rw[hσ];rfl
     simp only[Int.toNat_natCast] at h1
     simp only[this,if_false,he,hz,hb.2,if_true,hR,pRows_get?,h1,Option.map_some,List.length_map,Sy.cB,hw,if_true]
    ·exact bK h
   ·exact h.elim
  ·exact h.elim
 ·split at h
  ·split at h
   ·obtain ⟨_,rfl,h⟩:=nX h
    exact bK h
   ·exact bK h
  ·exact bK h
 ·exact bK h
theorem HM {σ:Nat→Option aI} {t:TypeId} {d:D} {K:D→Prop} (h:O3 gN P σ t d K):∃ r,mH P σ t d=some r∧K r:=by
 unfold O3 at h
 split at h
 ·rename_i k i o
  split at h
  ·rename_i ro zz rows hσ
   split at h
   ·rename_i r ag n hr hag hn
    split at h
    ·rename_i hw
     simp only[Bool.and_eq_true,beq_iff_eq,Bool.or_eq_true] at hw
     obtain ⟨row,y,h1,h2,h3,h4⟩:=h
     refine ⟨_,?_,h4⟩
     have hR:(σ k).bind cA=some (aD rows):=by rw[hσ];rfl
     unfold mH
     simp only[hag,hn,hR,pRows_get?,h1,Option.map_some]
     cases ag with
     | true =>
      have:o+n≤(row.map D.p).length:=by simp;omega
      simp only[if_true,this]
      rw[←List.map_drop,←List.map_take,←hw.1,h3,MF]
      rfl
     | false =>
      have hn1:n=1:=by simpa using hw.2
      have hw1:r.w=1:=by omega
      have hl:(r.enc y).length=1:=by rw[Sy.cB];exact hw1
      obtain ⟨x,hx⟩:=List.length_eq_one_iff.1 hl
      have:row[o]? = some x:=by
       have h5:((row.drop o).take r.w)[0]? = some x:=by rw[h3,hx];rfl
       rw[hw1] at h5
       simpa [List.getElem?_take,List.getElem?_drop] using h5
      simp only[Bool.false_eq_true,if_false,List.getElem?_map,this,Option.map_some,aG,hx,SX]
    ·exact h.elim
   ·exact h.elim
  ·exact bK h
 ·exact bK h
theorem yE {op:BinOp} {t:TypeId} {x y:D} {K:D→Prop} (h:SD gN P op t x y K):∃ r,sE P op t x y=some r∧K r:=by
 unfold SD at h
 split at h
 ·split at h
  ·rename_i k a k' b
   split at h
   ·rename_i hk
    have hk:=of_decide_eq_true hk
    subst hk
    obtain ⟨hb,h⟩:=h
    have hb:¬ b=0:=by simpa using hb
    exact ⟨_,by simp[sE,nO,xH,DF,BO,hb],h⟩
   ·exact h.elim
  ·exact h.elim
 ·split at h
  ·rename_i k a k' b
   split at h
   ·rename_i hk
    have hk:=of_decide_eq_true hk
    subst hk
    obtain ⟨hb,h⟩:=h
    have hb:¬ b=0:=by simpa using hb
    exact ⟨_,by simp[sE,nO,xH,DF,BO,hb],h⟩
   ·exact h.elim
  ·exact h.elim
 ·split at h
  ·rename_i a b
   obtain ⟨hb,h⟩:=h
   have hb:((a.size+b.size:Nat):Int)≤9223372036854775807:=of_decide_eq_true hb
   exact ⟨_,by simp only[sE,nO,xH,DF,IG,if_pos hb,Option.map_some],h⟩
  ·exact bK h
 ·exact bK h
theorem FE {op:BinOp} {t:TypeId} {x y:D} {K:D→Prop} (h:IC gN P op t x y K):∃ r,sE P op t x y=some r∧K r:=by
 unfold IC at h
 split at h
 ·split at h
  ·rename_i k a k' b
   obtain ⟨hb,h⟩:=h
   rw[Bool.and_eq_true,decide_eq_true_eq,decide_eq_true_eq] at hb
   exact ⟨_,by simp[sE,nO,xH,DF,hb],h⟩
  ·exact h.elim
 ·split at h
  ·rename_i k a k' b
   obtain ⟨hb,h⟩:=h
   rw[Bool.and_eq_true,decide_eq_true_eq,decide_eq_true_eq] at hb
   exact ⟨_,by simp[sE,nO,xH,DF,hb],h⟩
  ·exact h.elim
 ·exact yE h
theorem dC {d:Option D} {dflt m hi:Nat} {b:Bool} (h:xI d dflt=some (m,b)) (hb:(b&&decide (m≤hi))=true):hY d dflt hi=some m:=by
 simp only[Bool.and_eq_true,decide_eq_true_eq] at hb
 unfold xI at h
 split at h
 ·cases h;simp[hY,hb.2]
 ·rename_i k i
  cases h
  have h0:0≤i:=of_decide_eq_true hb.1
  have h1:i≤hi:=by have:=hb.2;omega
  simp[hY,h0,h1]
 ·cases h
theorem FG {σ:Nat→Option aI} {t:TypeId} {d:D} {lo hi mx:Option D} {K:D→Prop} (h:ID gN P σ t d lo hi mx K):∃ r,eX P σ t d lo hi mx=some r∧K r:=by
 unfold ID at h
 split at h
 ·exact bK h
 ·split at h
  ·rename_i e he
   split at h
   ·rename_i z hz
    split at h
    ·rename_i tt
     split at h
     ·rename_i full rows hrows
      split at h
      ·rename_i hN bh lN bl h1 h2
       obtain ⟨hb,h⟩:=h
       rw[Bool.and_eq_true,Bool.and_eq_true] at hb
       refine ⟨_,?_,h⟩
       unfold eX
       simp only[he,hz,hrows,hb.1.1,if_true,dC h1 hb.1.2,dC h2 hb.2]
      ·exact h.elim
     ·exact h.elim
    ·rename_i k
     split at h
     ·rename_i ro zz rows hσ
      split at h
      ·rename_i hN bh lN bl h1 h2
       obtain ⟨hb,h⟩:=h
       rw[Bool.and_eq_true] at hb
       have hR:(σ k).bind cA=some (aD rows):=by rw[hσ];rfl
       rw[kB] at h
       by_cases heq:hN=lN
       ·refine ⟨_,?_,h.1 (by simpa using heq)⟩
        unfold eX
        simp only[he,hz,hR,aO,dC h1 hb.1,dC h2 hb.2];rw[if_pos heq]
       ·obtain ⟨hw,hk⟩:=h.2 (by simpa using heq)
        refine ⟨_,?_,hk⟩
        unfold eX
        simp only[he,hz,hR,aO,dC h1 hb.1,dC h2 hb.2];rw[if_neg heq,if_pos hw]
      ·exact h.elim
     ·exact bK h
    ·rename_i k off len
     split at h
     ·rename_i hN bh lN bl h1 h2
      obtain ⟨hb,h⟩:=h
      rw[Bool.and_eq_true] at hb
      rw[kB] at h
      by_cases heq:hN=lN
      ·refine ⟨_,?_,h.1 (by simpa using heq)⟩
       unfold eX
       simp only[he,hz,dC h1 hb.1,dC h2 hb.2];rw[if_pos heq]
      ·obtain ⟨hw,hk⟩:=h.2 (by simpa using heq)
       refine ⟨_,?_,hk⟩
       unfold eX
       simp only[he,hz,dC h1 hb.1,dC h2 hb.2];rw[if_neg heq,if_pos hw]
     ·exact h.elim
    ·exact h.elim
   ·exact h.elim
  ·rename_i he
   split at h
   ·rename_i s hu
    split at h
    ·rename_i hN bh lN bl h1 h2
     obtain ⟨hb,h⟩:=h
     rw[Bool.and_eq_true] at hb
     refine ⟨_,?_,h⟩
     unfold eX
     simp only[he,hu,dC h1 hb.1,dC h2 hb.2]
    ·exact h.elim
   ·exact bK h
theorem GM {t:TypeId} {d i:D} {K:D→Prop} (h:N0 gN P t d i K):∃ r,q9 P t d i=some r∧K r:=by
 unfold N0 at h
 split at h
 ·rename_i kk j s hu
  obtain ⟨b,h0,h1,h2⟩:=h
  refine ⟨_,?_,h2⟩
  unfold q9
  have:¬ j<0:=by omega
  simp only[this,if_false,hu,h1,Option.map_some]
 ·exact bK h
theorem HO {σ:Nat→Option aI} {t:TypeId} {x i:D} {ok:Bool} {K:D→Prop} (h:O4 gN P σ t x i ok K):∃ r,lO P σ t x i ok=some r∧K r:=by
 unfold O4 at h
 split at h
 ·rename_i kt et hu
  split at h
  ·rename_i kd k z hk hz
   split at h
   ·rename_i m hkey
    split at h
    ·rename_i ro es hσ
     split at h
     ·rename_i ag r hag hr
      rcases h with ⟨h1,h2⟩|⟨i,y,h1,h2⟩
      ·refine ⟨_,?_,h2⟩
       unfold lO
       simp only[hu,hk,hz,hkey,hσ,h1]
       cases ok<;>rfl
      ·refine ⟨_,?_,h2⟩
       unfold lO
       simp only[hu,hk,hz,hkey,hσ,h1]
       cases ok<;>rfl
     ·exact h.elim
    ·exact h.elim
   ·rename_i es hkey
    split at h
    ·rename_i ag r hag hr
     rcases h with ⟨h1,h2⟩|⟨i,y,h1,h2⟩
     ·refine ⟨_,?_,h2⟩
      unfold lO
      simp only[hu,hk,hz,hkey,h1]
      cases ok<;>rfl
     ·refine ⟨_,?_,h2⟩
      unfold lO
      simp only[hu,hk,hz,hkey,h1]
      cases ok<;>rfl
    ·exact h.elim
   ·exact bK h
  ·exact h.elim
 ·exact h.elim
theorem kT:∀ (r:Sy),mB r=true→∀ (x:r.den) (n:Nat),(r.enc x).all (T.jK n)=true
 | .int _,_,x,n=>by cases n<;>simp[Sy.enc,T.jK]
 | .bool,_,x,n=>by cases n<;>simp[Sy.enc,T.jK]
 | .str,_,x,n=>by cases n<;>simp[Sy.enc,T.jK]
 | .pr a b,h,x,n=>by
  simp only[mB,Bool.and_eq_true] at h
  simp only[Sy.enc,List.all_append,Bool.and_eq_true]
  exact ⟨kT a h.1 x.1 n,kT b h.2 x.2 n⟩
theorem qV {ag:Bool} {r:Sy} (h:mB r=true) (x:r.den) (n:Nat):T.jK (n+1) (aG ag r x)=true:=by
 have:=kT r h x (n+1)
 cases ag with
 | true=>exact kT r h x n
 | false =>
  simp only[aG]
  cases he:r.enc x with
  | nil=>rfl
  | cons a l=>rw[he] at this;simp only[List.all_cons,Bool.and_eq_true] at this;exact this.1
theorem yL:∀ (s:Sh),s.all (fun x=>mB x.2)=true→∀ (y:Sh.den s) (n:Nat),(Sh.eQ s y).all (T.jK (n+1))=true
 | [],_,_,_=>rfl
 | [a],h,y,n=>by
  simp only[List.all_cons,List.all_nil,Bool.and_true] at h
  simp only[Sh.eQ,List.all_cons,List.all_nil,Bool.and_true]
  exact qV h y n
 | a::b::l,h,y,n=>by
  rw[List.all_cons,Bool.and_eq_true] at h
  simp only[Sh.eQ,List.all_cons,Bool.and_eq_true] at *
  have:=yL (b::l) (by rw[List.all_cons,Bool.and_eq_true];exact h.2) y.2 n
  exact ⟨qV h.1 y.1 n,this⟩
theorem SP {s:Sh} (h:s.all (fun x=>mB x.2)=true) (y:Sh.den s):(Sh.enc s y).flat=true:=by
 unfold T.flat
 match s,h,y with
 | [],h,y=>rfl
 | [a],h,y =>
  simp only[List.all_cons,List.all_nil,Bool.and_true] at h
  exact qV h y 2
 | a::b::l,h,y=>exact yL (a::b::l) h y 1
theorem GO {σ:Nat→Option aI} {n:Nat} {f:D} {args:List D} {K:D→Prop} (h:N2 gN P E σ n f args K):∃ r,iJ E σ n f args=some r∧K r:=by
 unfold N2 at h
 split at h
 ·rename_i fid a b hc
  split at h
  ·rename_i g s hE hs
   split at h
   ·rename_i ts hts
    obtain ⟨y,h1,h2⟩:=h
    refine ⟨_,?_,h2⟩
    unfold iJ
    simp only[hc,hE,hts,h1,Option.map_some]
   ·rename_i hts
    split at h
    ·rename_i ts hm hfl
     obtain ⟨y,h1,h2⟩:=h
     refine ⟨_,?_,h2⟩
     unfold iJ
     simp only[hc,hE,hts,hm,h1,SP hfl y,if_true]
    ·exact h.elim
  ·rename_i g s hE hs
   obtain ⟨y,h1,h2⟩:=h
   refine ⟨_,?_,h2⟩
   unfold iJ
   simp only[hc,hE,h1,Option.map_some]
  ·rename_i g s hE hs
   split at h
   ·rename_i ts hts
    obtain ⟨y,h1,h2⟩:=h
    refine ⟨_,?_,h2⟩
    unfold iJ
    simp only[hc,hE,hts,h1,Option.map_some]
   ·exact h.elim
  ·rename_i g s hE hs
   split at h
   ·rename_i ts hts
    obtain ⟨y,h1,h2⟩:=h
    refine ⟨_,?_,h2⟩
    unfold iJ
    simp only[hc,hE,hts,h1,Option.map_some]
   ·exact h.elim
  ·rename_i g s hE hs
   split at h
   ·rename_i ts hts
    obtain ⟨y,h1,h2⟩:=h
    refine ⟨_,?_,h2⟩
    unfold iJ
    simp only[hc,hE,hts,h1,Option.map_some]
   ·exact h.elim
  ·exact h.elim
 ·exact h.elim
theorem EL {t:TypeId} {a b:D} {K:D→Prop} (h:HP gN P t a b K):∃ d,EK P t a b=some d∧K d:=by
 unfold HP at h
 split at h
 ·rename_i e he
  split at h
  ·rename_i z by_ zv k1 x k2 y hz hby hzv
   split at h
   ·rename_i hc
    obtain ⟨hb,hk⟩:=h
    refine ⟨_,?_,hk⟩
    simp only[EK,he,hz,hby,hzv,hc,hb,Bool.and_self]
   ·exact h.elim
  ·exact h.elim
 ·exact h.elim
theorem oC:∀ {rows:List (List T)} {xs:List Int},eO rows=xs.map (Sy.int .u8).enc→oB rows=some xs
 | [],[],_=>rfl
 | [],_::_,h=>by cases h
 | _::_,[],h=>by cases h
 | r::rows,n::xs,h=>by
  unfold eO at h
  rw[List.map_cons,List.map_cons] at h
  obtain ⟨h1,h2⟩:=List.cons.inj h
  have ih:=oC (rows:=rows) (xs:=xs) h2
  match r,h1 with
  | [],h1=>cases h1
  | [t],h1 =>
   have h3:T.canon 0 t = .v (.int .u8 n):=(List.cons.inj h1).1
   have e:t = .v (.int .u8 n):=by
    cases t with
    | v v =>
     unfold T.canon at h3
     split at h3<;>first|exact h3|cases h3
    | _=>simp[T.canon] at h3
   subst e
   simp only[oB,ih,Option.map_some]
  | _::_::_,h1=>cases (List.cons.inj h1).2
theorem DM {σ:Nat→Option aI} {src dst:TypeId} {d:D} {K:D→Prop} (h:GR gN P σ src dst d K):∃ r,yH P σ src dst d=some r∧K r:=by
 unfold GR at h
 split at h
 ·split at h
  ·rename_i hσ hs hd
   split at h
   ·rename_i he hz
    obtain ⟨xs,hx,hb,hk⟩:=h
    refine ⟨_,?_,hk⟩
    simp only[yH,hσ,hs,hd,he,oC hx]
    rw[if_pos ⟨of_decide_eq_true hz,of_decide_eq_true hb⟩]
   ·exact h.elim
  ·exact h.elim
 ·rename_i hn
  obtain ⟨r,h1,h2⟩:=bK h
  refine ⟨r,?_,h2⟩
  unfold yH
  split
  ·exact absurd rfl (hn _)
  ·exact h1
theorem rS {src dst:TypeId} {d:D} {K:D→Prop} (h:BC gN P src dst d K):∃ r,rR P src dst d=some r∧K r:=by
 unfold BC at h
 split at h
 ·rename_i s e hs hd
  split at h
  ·rename_i he
   obtain ⟨hb,hk⟩:=h
   refine ⟨_,?_,hk⟩
   simp only[rR,uJ,I1,hs,hd,he,hb]
  ·exact h.elim
 ·exact bK h
theorem DN {src dst:TypeId} {d:D} {K:D→Prop} (h:GS gN P src dst d K):∃ r,rR P src dst d=some r∧K r:=by
 unfold GS at h
 split at h
 ·rename_i fl rows e hs hd
  split at h
  ·rename_i he
   obtain ⟨xs,hx,hk⟩:=h
   refine ⟨_,?_,hk⟩
   simp only[rR,uJ,cT,hs,hd,he,oC hx]
  ·exact h.elim
 ·exact rS h
theorem QB {n:Nat} {σ:Nat→Option aI} {s₀ s:Nat→D} {op:Op} {K:D→Prop} (h:Z4 gN P E n σ s₀ s op K):∃ d,qv P E n σ s₀ s true op=some d∧K d:=by
 unfold Z4 at h
 split at h
 ·exact L0 h
 ·exact EL h
 ·exact HM h
 ·split at h
  ·exact FE h
  ·exact yE h
 ·exact FG h
 ·exact GM h
 ·exact HO h
 ·rename_i src dst x
  split at h
  ·rename_i hm
   obtain ⟨d,h1,h2⟩:=DM h
   refine ⟨d,?_,h2⟩
   simp only[qv,hm]
   exact h1
  ·rename_i hm
   have h:∃ r,rR P src dst (ev s x)=some r∧K r:=by
    split at h
    ·exact DN h
    ·exact rS h
   obtain ⟨d,h1,h2⟩:=h
   refine ⟨d,?_,h2⟩
   simp only[qv,hm]
   exact h1
 ·rename_i c
  split at h
  ·rename_i f hf
   obtain ⟨d,h1,h2⟩:=GO h
   refine ⟨d,?_,h2⟩
   simp only[qv,hf]
   exact h1
  ·exact bK h
 ·exact bK h
end
end Go.Pv
