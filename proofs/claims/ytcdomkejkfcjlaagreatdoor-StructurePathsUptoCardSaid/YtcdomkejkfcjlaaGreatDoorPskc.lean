/-
  The symbolic executor, part c: operations that write or make memory; a whole region.
-/
import Derived.Test.YtcdomkejkfcjlaaGreatDoorPskb
set_option linter.unusedSimpArgs false
namespace Go.Pv
open Go Go.RowKit
abbrev KN:=D→(Nat→Option aT)→Nat→Prop
section
variable (C : Combs) (P : Program) (E : Env)
def AOX (c:Nat) (x:Option (D×(Nat→Option aT)×Nat)) (K:KN):Prop:=match x with
 | some (d,σ',n')=>K d σ' n'
 | none=>C.bad c
def AD2 (σ:Nat→Option aT) (n:Nat) (t:TypeId) (a v:D) (K:KN):Prop :=
 match a with
 | .ptr k i j=>match σ k with
  | some (.arr ro za rows)=>match ro,tsz? P t,rJ v.cells with
   | false,some z,some ts=>match decide (0<z)&&ts.length == z&&ts.all T.leaf with
    | true=>C.row rows i fun r=>C.G3 (decide (j+z≤r.length)) (K (.p (.v undef)) (bX σ k (some (.arr false za (rows.set i (cF r j ts))))) (n+1))
    | false=>C.bad 101
   | _,_,_=>C.bad 102
  | _=>AOX C 103 (one n ((gY P σ t a v).map fun σ'=>(.p (.v undef),σ'))) K
 | _=>C.bad 104
def ATX (a b:List (List T)):List (List T):=a++b
def Q5 (σ:Nat→Option aT) (n:Nat) (t u:TypeId) (s x:D) (K:KN):Prop :=
 match decide (t=u),nA P t with
 | true,some e =>
  match tsz? P e,tby? P e,tz? P e,S8 σ x with
  | some z,some by_,some zv,some xs =>
   match decide (0<z)&&zv.cells.size == z&&zv.cells.all Value.oneCell' with
   | true=>match s with
    | .p st=>match dU st with
     | some (full,[])=>C.G3 (fH z xs&&full&&decide (xs.length*by_≤140737488355328)&&decide (xs.length≤140737488355328)) (K (.own n) (bX σ n (some (.arr false z xs))) (n+1))
     | some (full,r::rows)=>aC xs.isEmpty (K (.p st) σ (n+1)) (C.G3 (full&&fH z (r::rows)&&fH z xs&&decide (((r::rows).length+xs.length)*by_≤140737488355328)&&decide ((r::rows).length+xs.length≤140737488355328)) (K (.own n) (bX σ n (some (.arr false z (ATX (r::rows) xs)))) (n+1)))
     | none=>C.bad 111
    | .own k₀=>match σ k₀ with
     | some (.arr ro z' rs)=>match ro with
      | false=>C.G3 (decide (z'=z)&&fH z xs&&decide ((rs.length+xs.length)*by_≤140737488355328)&&decide (rs.length+xs.length≤140737488355328)) (K (.own n) (bX (bX σ k₀ none) n (some (.arr false z (rs++xs)))) (n+1))
      | true=>C.bad 112
     | _=>C.bad 113
    | _=>C.bad 114
   | false=>C.bad 115
  | _,_,_,_=>C.bad 116
 | _,_=>C.bad 117
def AK6 (σ:Nat→Option aT) (n:Nat) (t:TypeId) (len cap:D) (K:KN):Prop :=
 match nA P t with
 | some e =>
  match tsz? P e,tby? P e,tz? P e,len,cap with
  | some z,some by_,some zv,.p (.v (.int _ a)),.p (.v (.int _ b)) =>
   match decide (0<z)&&zv.cells.size == z&&zv.cells.all Value.oneCell' with
   | true=>C.G3 ((decide (a=b)||decide (a=0))&&decide (0≤b)&&decide (b*by_≤140737488355328)&&decide (b≤140737488355328)) (K (.own n) (bX σ n (some (.arr false z (List.replicate a.toNat (zv.cells.toList.map .v))))) (n+1))
   | false=>C.bad 121
  | _,_,_,_,_=>C.bad 122
 | none=>C.bad 123
def AOH (σ:Nat→Option aT) (n:Nat) (t:TypeId) (x i v:D) (K:KN):Prop :=
 match P.underlying t with
 | some (.map kt _) =>
  match sU P kt,i,x with
  | some kd,.p (.v k),.map m =>
   match zR kd k,σ m with
   | true,some (.map ro es)=>match ro with
    | false=>C.opt _ (findD kd k es 0) fun r=>K (.p (.v undef)) (bX σ m (some (.map false (nS es r k v)))) (n+1)
    | true=>C.bad 131
   | _,_=>C.bad 132
  | _,_,_=>C.bad 133
 | _=>C.bad 134
def ALJ (σ:Nat→Option aT) (n:Nat) (isString:Bool) (d:D) (K:KN):Prop :=
 match isString,d with
 | true,.it k=>match σ k with
  | some (.nU s pos)=>aC (decide (pos<s.size)) (K (.p (.v (.tuple #[.bool true,.int .i64 pos,.int .i32 (Utf8.decode s pos).1]))) (bX σ k (some (.nU s (pos+(Utf8.decode s pos).2)))) (n+1)) (K (.p (.v (.tuple #[.bool false]))) σ (n+1))
  | _=>C.bad 141
 | _,_=>C.bad 142
def AQG (fid:FuncId):Option Sy:=match P.funcs[fid]? with
 | some fn=>match fn.resultTypes.toList with
  | [t]=>match nA P t with
   | some e=>AD4 P e
   | none=>none
  | _=>none
 | none=>none
def APM (z:Nat) (g:List (List T)→Option (List (List T))) (σ:Nat→Option aT) (n:Nat) (args:List D) (K:KN):Prop :=
 match args with
 | [.own k]=>match σ k with
  | some (.arr ro z' rows)=>match ro,decide (z'=z) with
   | false,true=>C.opt (List (List T)) (g rows) fun rows'=>K (.p (.v (.tuple #[]))) (bX σ k (some (.arr false z rows'))) (n+1)
   | _,_=>C.bad 155
  | _=>C.bad 156
 | _=>C.bad 157
def ACJ (σ:Nat→Option aT) (n:Nat) (f:D) (args:List D) (K:KN):Prop :=
 match iK f with
 | some (fid,a,b)=>match E fid with
  | some (.perm z g)=>APM C z g σ n (a++args++b) K
  | _=>match E fid,AQG P fid,rJ (a++args++b) with
   | some (.fresh g),some r,some ts=>C.fresh r (g ts) fun l=>aC l.isEmpty (K (.p (.sl false [])) σ (n+1)) (K (.own n) (bX σ n (some (.arr false r.w (l.map r.enc)))) (n+1))
   | _,_,_=>C.bad 151
 | none=>C.bad 152
def nvS (σ:Nat→Option aT) (s:Nat→D) (n:Nat) (op:Op) (K:KN):Prop :=
 match op with
 | .store t a v=>AD2 C P σ n t (ev s a) (ev s v) K
 | .makeSlice t l c=>AK6 C P σ n t (ev s l) (ev s c) K
 | .mapUpdate t m i v=>AOH C P σ n t (ev s m) (ev s i) (ev s v) K
 | .insert t m i v=>AOH C P σ n t (ev s m) (ev s i) (ev s v) K
 | .next it isString=>ALJ C σ n isString (ev s it) K
 | .call c =>
  match c.callee,c.args.toList,c.argTypes.toList with
  | .builtin .append,[x,y],[t,u]=>Q5 C P σ n t u (ev s x) (ev s y) K
  | .value f,as,_=>ACJ C P E σ n (ev s f) (as.map (ev s)) K
  | _,_,_=>C.bad 161
 | op=>AOX C 162 (nv P E σ s n op) K
end
section
variable {P : Program} {E : Env}
theorem O1 {c:Nat} {x:Option (D×(Nat→Option aT)×Nat)} {K:KN} (h:AOX oD c x K):∃ d σ' n',x=some (d,σ',n')∧K d σ' n':=by
 unfold AOX at h
 split at h
 ·exact ⟨_,_,_,rfl,h⟩
 ·exact h.elim
theorem ZP {σ:Nat→Option aT} {n:Nat} {t:TypeId} {a v:D} {K:KN} (h:AD2 oD P σ n t a v K):∃ d σ' n',one n ((gY P σ t a v).map fun σ'=>(D.p (.v undef),σ'))=some (d,σ',n')∧K d σ' n':=by
 unfold AD2 at h
 split at h
 ·rename_i k i j
  split at h
  ·rename_i ro za rows hσ
   split at h
   ·rename_i z ts hz hts
    split at h
    ·rename_i hc
     simp only[Bool.and_eq_true,decide_eq_true_eq,beq_iff_eq] at hc
     obtain ⟨r,hr,hb,hk⟩:=h
     have hb:j+z≤r.length:=of_decide_eq_true hb
     refine ⟨_,_,_,?_,hk⟩
     simp only[one,gY,hσ,hz,hr,hts]
     rw[if_pos ⟨hc.1.1,hc.1.2,hb,hc.2⟩]
     rfl
    ·exact h.elim
   ·exact h.elim
  ·exact O1 h
 ·exact h.elim
theorem Q6 {σ:Nat→Option aT} {n:Nat} {t u:TypeId} {s x:D} {K:KN} (h:Q5 oD P σ n t u s x K):∃ d σ' n',one n (gO P σ n t u s x)=some (d,σ',n')∧K d σ' n':=by
 unfold Q5 at h
 split at h
 ·rename_i e htu he
  have htu:t=u:=of_decide_eq_true htu
  split at h
  ·rename_i z by_ zv xs hz hby hzv hxs
   split at h
   ·rename_i hc
    simp only[Bool.and_eq_true,decide_eq_true_eq,beq_iff_eq] at hc
    split at h
    ·rename_i st
     split at h
     ·rename_i full hrow
      obtain ⟨hb,hk⟩:=h
      simp only[Bool.and_eq_true,decide_eq_true_eq] at hb
      refine ⟨_,_,_,?_,hk⟩
      simp only[one,gO,if_pos htu,he,hz,hby,hzv,hxs]
      rw[if_pos ⟨hc.1.1,hc.1.2,hc.2,hb.1.1.1⟩]
      simp only[hrow]
      rw[if_pos ⟨hb.1.1.2,hb.1.2,hb.2⟩]
      rfl
     ·rename_i full r rows hrow
      rw[qS] at h
      cases xs with
      | nil =>
       refine ⟨_,_,_,?_,h.1 rfl⟩
       simp only[one,gO,if_pos htu,he,hz,hby,hzv,hxs]
       rw[if_pos ⟨hc.1.1,hc.1.2,hc.2,rfl⟩]
       simp only[hrow]
       rfl
      | cons x0 xs =>
       obtain ⟨hb,hk⟩:=h.2 rfl
       simp only[Bool.and_eq_true,decide_eq_true_eq] at hb
       refine ⟨_,_,_,?_,hk⟩
       simp only[one,gO,if_pos htu,he,hz,hby,hzv,hxs]
       rw[if_pos ⟨hc.1.1,hc.1.2,hc.2,hb.1.1.2⟩]
       simp only[hrow]
       rw[if_pos ⟨hb.1.1.1.1,hb.1.1.1.2,hb.1.2,hb.2⟩]
       rfl
     ·exact h.elim
    ·rename_i k₀
     split at h
     ·rename_i ro z' rs hσ
      split at h
      ·obtain ⟨hb,hk⟩:=h
       simp only[Bool.and_eq_true,decide_eq_true_eq] at hb
       refine ⟨_,_,_,?_,hk⟩
       simp only[one,gO,if_pos htu,he,hz,hby,hzv,hxs]
       rw[if_pos ⟨hc.1.1,hc.1.2,hc.2,hb.1.1.2⟩]
       simp only[hσ]
       rw[if_pos ⟨hb.1.1.1,hb.1.2,hb.2⟩]
       rfl
      ·exact h.elim
     ·exact h.elim
    ·exact h.elim
   ·exact h.elim
  ·exact h.elim
 ·exact h.elim
theorem AC2 {σ:Nat→Option aT} {n:Nat} {t:TypeId} {a b:D} {K:KN} (h:AK6 oD P σ n t a b K):∃ d σ' n',one n (OM P σ n t a b)=some (d,σ',n')∧K d σ' n':=by
 unfold AK6 at h
 split at h
 ·rename_i e he
  split at h
  ·rename_i z by_ zv k1 x k2 y hz hby hzv
   split at h
   ·rename_i hc
    simp only[Bool.and_eq_true,decide_eq_true_eq,beq_iff_eq] at hc
    obtain ⟨hb,hk⟩:=h
    simp only[Bool.and_eq_true,Bool.or_eq_true,decide_eq_true_eq] at hb
    refine ⟨_,_,_,?_,hk⟩
    simp only[one,OM,he,hz,hby,hzv]
    rw[if_pos ⟨hb.1.1.1,hb.1.1.2,hb.1.2,hb.2,hc.1.1,hc.1.2,hc.2⟩]
    rfl
   ·exact h.elim
  ·exact h.elim
 ·exact h.elim
theorem OP {σ:Nat→Option aT} {n:Nat} {t:TypeId} {x i v:D} {K:KN} (h:AOH oD P σ n t x i v K):∃ d σ' n',one n ((YH P σ t x i v).map fun σ'=>(D.p (.v undef),σ'))=some (d,σ',n')∧K d σ' n':=by
 unfold AOH at h
 split at h
 ·rename_i kt et hu
  split at h
  ·rename_i kd k m hk
   split at h
   ·rename_i ro es hkey hσ
    split at h
    ·obtain ⟨r,hr,hk'⟩:=h
     refine ⟨_,_,_,?_,hk'⟩
     simp only[one,YH,hu,hk,hkey,hσ,hr]
     rfl
    ·exact h.elim
   ·exact h.elim
  ·exact h.elim
 ·exact h.elim
theorem AC4 {σ:Nat→Option aT} {n:Nat} {b:Bool} {x:D} {K:KN} (h:ALJ oD σ n b x K):∃ d σ' n',one n (OS σ b x)=some (d,σ',n')∧K d σ' n':=by
 unfold ALJ at h
 split at h
 ·rename_i k
  split at h
  ·rename_i s pos hσ
   rw[qS] at h
   by_cases hp:pos<s.size
   ·refine ⟨_,_,_,?_,h.1 (by simpa using hp)⟩
    simp only[one,OS,hσ]
    rw[if_pos hp]
    rfl
   ·refine ⟨_,_,_,?_,h.2 (by simpa using hp)⟩
    simp only[one,OS,hσ]
    rw[if_neg hp]
    rfl
  ·exact h.elim
 ·exact h.elim
theorem W3 {σ:Nat→Option aT} {n:Nat} {f:D} {args:List D} {K:KN} (h:ACJ oD P E σ n f args K):∃ d σ' n',xX E σ n f args=some (d,σ',n')∧K d σ' n':=by
 unfold ACJ at h
 split at h
 ·rename_i fid a b hc
  split at h
  ·rename_i z g hE
   unfold APM at h
   split at h
   ·rename_i k hargs
    split at h
    ·rename_i ro z' rows hσ
     split at h
     ·rename_i hz
      obtain ⟨rows',h1,h2⟩:=h
      refine ⟨_,_,_,?_,h2⟩
      simp only[xX,hc,hE,W5,hargs,hσ,hz,h1,Option.map_some]
     ·exact h.elim
    ·exact h.elim
   ·exact h.elim
  ·split at h
   ·rename_i g r ts hE hr hts
    obtain ⟨l,h1,h2⟩:=h
    rw[qS] at h2
    cases l with
    | nil =>
     refine ⟨_,_,_,?_,h2.1 rfl⟩
     simp only[xX,hc,hE,hts,h1]
     rfl
    | cons x l =>
     refine ⟨_,_,_,?_,h2.2 rfl⟩
     simp only[xX,hc,hE,hts,h1,List.map_cons,Sy.cX]
   ·exact h.elim
 ·exact h.elim
theorem ALO {σ:Nat→Option aT} {s:Nat→D} {n:Nat} {op:Op} {K:KN} (h:nvS oD P E σ s n op K):∃ d σ' n',nv P E σ s n op=some (d,σ',n')∧K d σ' n':=by
 unfold nvS at h
 split at h
 ·exact ZP h
 ·exact AC2 h
 ·exact OP h
 ·exact OP h
 ·exact AC4 h
 ·rename_i c
  split at h
  ·rename_i x y t u hc ha hat
   obtain ⟨d,σ',n',h1,h2⟩:=Q6 h
   refine ⟨d,σ',n',?_,h2⟩
   simp only[nv,hc,ha,hat]
   exact h1
  ·rename_i f hc
   obtain ⟨d,σ',n',h1,h2⟩:=W3 h
   refine ⟨d,σ',n',?_,h2⟩
   simp only[nv,hc,V7,h1]
  ·exact h.elim
 ·exact O1 h
end
def uM (σ:Nat→Option aT) (n:Nat) (σ':Nat→Option aT) (n':Nat):Prop:=n≤n'∧∀ k x,k<n→σ k=some x→eU x=false→σ' k=some x
theorem uM.refl (σ:Nat→Option aT) (n:Nat):uM σ n σ n:=⟨Nat.le_refl _,fun _ _ _ h _=>h⟩
theorem uM.trans {σ σ' σ'':Nat→Option aT} {n n' n'':Nat} (h:uM σ n σ' n') (h':uM σ' n' σ'' n''):uM σ n σ'' n'' :=
 ⟨Nat.le_trans h.1 h'.1,fun k x hk hx hw=>h'.2 k x (Nat.lt_of_lt_of_le hk h.1) (h.2 k x hk hx hw) hw⟩
theorem uM.new {σ:Nat→Option aT} {n n':Nat} (x:Option aT) (h:n≤n'):uM σ n (bX σ n x) n':=⟨h,fun k y hk hy _=>by rw[bE _ _ (by omega)];exact hy⟩
theorem uM.same {σ:Nat→Option aT} {n n':Nat} (h:n≤n'):uM σ n σ n':=⟨h,fun _ _ _ h _=>h⟩
theorem uM.set {σ:Nat→Option aT} {n n' m:Nat} {x₀:aT} (x:Option aT) (h:n≤n') (hm:σ m=some x₀) (hw:eU x₀=true):uM σ n (bX σ m x) n':=⟨h,fun k y hk hy hy'=>by
 by_cases e:k=m
 ·subst e;rw[hm] at hy;cases hy;rw[hw] at hy';cases hy'
 ·rw[bE _ _ e];exact hy⟩
def iU (E:Env):Prop:=∀ f g,E f≠some (.heap g)
section
variable {P : Program} {E : Env}
theorem dI {n:Nat} {x:Option (D×(Nat→Option aT))} {d:D} {σ':Nat→Option aT} {n':Nat} (h:one n x=some (d,σ',n')):x=some (d,σ')∧n'=n+1:=by
 unfold one at h
 cases x with
 | none=>cases h
 | some y=>obtain ⟨a,b⟩:=y;simp only[Option.map_some,Option.some.injEq,Prod.mk.injEq] at h;obtain ⟨rfl,rfl,rfl⟩:=h;exact ⟨rfl,rfl⟩
theorem AJW (hh:iU E) {σ:Nat→Option aT} {n:Nat} {c:D} {args:List D} {d:D} {σ':Nat→Option aT} {n':Nat} (h:xX E σ n c args=some (d,σ',n')):uM σ n σ' n':=by
 unfold xX at h
 split at h
 ·split at h
  ·split at h
   ·split at h
    ·split at h
     ·cases h;exact .same (by omega)
     ·cases h;exact .new _ (by omega)
    ·cases h
   ·split at h
    ·split at h
     ·split at h
      ·cases h;exact .new _ (by omega)
      ·cases h
     ·cases h
    ·cases h
  ·split at h
   ·split at h
    ·cases h;exact .same (by omega)
    ·split at h
     ·cases h;exact .new _ (by omega)
     ·cases h
    ·cases h
   ·cases h
  ·rename_i hg;exact absurd hg (hh _ _)
  ·unfold W5 at h
   split at h
   ·split at h
    ·rename_i hσ
     split at h
     ·simp only[Option.map_eq_some_iff,Prod.mk.injEq] at h
      obtain ⟨_,_,_,rfl,rfl⟩:=h
      exact .set _ (by omega) hσ rfl
     ·cases h
    ·cases h
   ·cases h
  ·cases h
 ·cases h
theorem KT:∀ {ps ps':List (Nat×D)} {σ σ1:Nat→Option aT} {n n':Nat},n≤n'→yA σ ps=some (ps',σ1)→uM σ n σ1 n'
 | [],ps',σ,σ1,n,n',hn,h=>by
  simp only[yA] at h
  cases h
  exact .same hn
 | p::ps,ps',σ,σ1,n,n',hn,h=>by
  obtain ⟨pi,pd⟩:=p
  unfold yA at h
  split at h
  ·rename_i e;cases e
  ·rename_i i k r e
   cases e
   split at h
   ·rename_i z rows hk
    simp only[Option.map_eq_some_iff,Prod.mk.injEq] at h
    obtain ⟨⟨_,_⟩,hg,_,rfl⟩:=h
    exact (uM.set (n':=n) none (Nat.le_refl _) hk rfl).trans (KT hn hg)
   ·cases h
  ·rename_i i d r _ e
   cases e
   simp only[Option.map_eq_some_iff,Prod.mk.injEq] at h
   obtain ⟨⟨_,_⟩,hg,_,rfl⟩:=h
   exact KT hn hg
theorem AS6 (hh:iU E) {σ:Nat→Option aT} {s:Nat→D} {n:Nat} {op:Op} {d:D} {σ':Nat→Option aT} {n':Nat} (h:nv P E σ s n op=some (d,σ',n')):uM σ n σ' n':=by
 unfold nv at h
 split at h
 ·obtain ⟨h1,rfl⟩:=dI h
  cases hz:tz? P _ with
  | none=>rw[hz] at h1;cases h1
  | some z =>
   rw[hz] at h1
   simp only[Option.bind_some,Option.map_eq_some_iff,Prod.mk.injEq] at h1
   obtain ⟨b,_,rfl,rfl⟩:=h1
   exact .new _ (by omega)
 ·obtain ⟨h1,rfl⟩:=dI h
  simp only[Option.map_eq_some_iff,Prod.mk.injEq] at h1
  obtain ⟨b,_,rfl,rfl⟩:=h1
  exact .new _ (by omega)
 ·obtain ⟨h1,rfl⟩:=dI h
  simp only[Option.map_eq_some_iff,Prod.mk.injEq] at h1
  obtain ⟨σ₂,h2,rfl,rfl⟩:=h1
  unfold gY at h2
  split at h2
  ·split at h2
   ·rename_i hσ hz
    split at h2
    ·split at h2
     ·cases h2;exact .set _ (by omega) hσ rfl
     ·cases h2
    ·cases h2
   ·rename_i hσ hz
    split at h2
    ·split at h2
     ·cases h2;exact .set _ (by omega) hσ rfl
     ·cases h2
    ·cases h2
   ·cases h2
  ·cases h2
 ·split at h
  ·rename_i r hr
   obtain ⟨h1,rfl⟩:=dI h
   cases h1
   unfold AE7 at hr
   split at hr
   ·split at hr
    ·cases hr;exact .new _ (by omega)
    ·cases hr
   ·cases hr;exact .new _ (by omega)
   ·cases hr;exact .new _ (by omega)
   ·cases hr
  ·obtain ⟨h1,rfl⟩:=dI h
   unfold ADT at h1
   split at h1
   ·cases h1;exact .new _ (by omega)
   ·cases h1
 ·split at h
  ·obtain ⟨h1,rfl⟩:=dI h
   cases h1;exact .new _ (by omega)
  ·split at h
   ·obtain ⟨h1,rfl⟩:=dI h
    cases h1;exact .new _ (by omega)
   ·cases h
 ·obtain ⟨h1,rfl⟩:=dI h
  unfold OM at h1
  split at h1
  ·split at h1
   ·split at h1
    ·cases h1;exact .new _ (by omega)
    ·cases h1
   ·cases h1
  ·cases h1
 ·split at h
  ·rename_i hgv
   split at h
   ·obtain ⟨h1,rfl⟩:=dI h
    cases h1;exact (KT (Nat.le_refl _) hgv).trans (.new _ (by omega))
   ·cases h
  ·cases h
 ·obtain ⟨h1,rfl⟩:=dI h
  simp only[Option.map_eq_some_iff,Prod.mk.injEq] at h1
  obtain ⟨σ₂,h2,rfl,rfl⟩:=h1
  unfold YH at h2
  split at h2
  ·split at h2
   ·split at h2
    ·rename_i hσ
     split at h2
     ·cases h2;exact .set _ (by omega) hσ rfl
     ·cases h2
    ·cases h2
   ·cases h2
  ·cases h2
 ·obtain ⟨h1,rfl⟩:=dI h
  simp only[Option.map_eq_some_iff,Prod.mk.injEq] at h1
  obtain ⟨σ₂,h2,rfl,rfl⟩:=h1
  unfold YH at h2
  split at h2
  ·split at h2
   ·split at h2
    ·rename_i hσ
     split at h2
     ·cases h2;exact .set _ (by omega) hσ rfl
     ·cases h2
    ·cases h2
   ·cases h2
  ·cases h2
 ·obtain ⟨h1,rfl⟩:=dI h
  unfold AE4 at h1
  split at h1
  ·split at h1
   ·split at h1
    ·rename_i hσ
     split at h1
     ·cases h1;exact .set _ (by omega) hσ rfl
     ·cases h1;exact .set _ (by omega) hσ rfl
     ·cases h1
    ·cases h1
   ·cases h1
  ·cases h1
 ·obtain ⟨h1,rfl⟩:=dI h
  simp only[Option.map_eq_some_iff,Prod.mk.injEq] at h1
  obtain ⟨σ₂,h2,rfl,rfl⟩:=h1
  unfold AE8 at h2
  split at h2
  ·split at h2
   ·rename_i hσ
    split at h2
    ·cases h2;exact .set _ (by omega) hσ rfl
    ·cases h2
   ·cases h2
  ·cases h2
 ·obtain ⟨h1,rfl⟩:=dI h
  simp only[Option.map_eq_some_iff,Prod.mk.injEq] at h1
  obtain ⟨_,_,_,rfl⟩:=h1
  exact .same (by omega)
 ·obtain ⟨h1,rfl⟩:=dI h
  unfold OS at h1
  split at h1
  ·split at h1
   ·rename_i hσ
    split at h1
    ·cases h1;exact .set _ (by omega) hσ rfl
    ·cases h1;exact .same (by omega)
   ·cases h1
  ·cases h1
 ·split at h
  ·obtain ⟨h1,rfl⟩:=dI h
   unfold gO at h1
   split at h1
   ·split at h1
    ·split at h1
     ·split at h1
      ·split at h1
       ·split at h1
        ·split at h1
         ·cases h1;exact .new _ (by omega)
         ·cases h1
        ·split at h1
         ·cases h1;exact .same (by omega)
         ·split at h1
          ·cases h1;exact .new _ (by omega)
          ·cases h1
        ·cases h1
       ·split at h1
        ·rename_i hσ
         split at h1
         ·cases h1
          exact (uM.set (n':=n) none (Nat.le_refl _) hσ rfl).trans (.new _ (by omega))
         ·cases h1
        ·cases h1
       ·cases h1
      ·cases h1
     ·cases h1
    ·cases h1
   ·cases h1
  ·unfold V7 at h
   split at h
   ·rename_i r hcf
    cases h
    exact AJW hh hcf
   ·simp only[Option.map_eq_some_iff,Prod.mk.injEq] at h
    obtain ⟨_,_,_,rfl,rfl⟩:=h
    exact .same (Nat.le_refl _)
  ·cases h
 ·cases h
end
section
variable (C : Combs) (P : Program) (E : Env) (nt : Nat)
def splitK (ops:Array Oper) (o:Oper) (st:St) (K:St→Prop):Prop:=match o.guard with
 | none=>K st
 | some (j,_)=>match (ops[j]?).bind (·.dst) with
  | none=>K st
  | some t=>match st.s t with
   | .p (.v (.bool b))=>aC b (K ⟨bX st.s t (.p (.v (.bool true))),st.σ,st.n⟩) (K ⟨bX st.s t (.p (.v (.bool false))),st.σ,st.n⟩)
   | _=>K st
def E2 (st:St) (dst:Option Tmp) (d:D) (σ':Nat→Option aT) (n':Nat) (K:St→Prop):Prop:=match oC nt st dst d σ' n' with
 | some st'=>K st'
 | none=>C.bad 201
def L2 (ops:Array Oper) (o:Oper) (st:St) (K:St→Prop):Prop :=
 match dY ops st.s o with
 | some true=>match cY E o.op with
  | true=>qvS C P E st.n st.σ st.s (bN true st.s) o.op fun d=>E2 C nt st o.dst d st.σ st.n K
  | false=>nvS C P E st.σ (bN true st.s) st.n o.op fun d σ' n'=>E2 C nt st o.dst d σ' n' K
 | some false=>E2 C nt st o.dst (.p (.v undef)) st.σ st.n K
 | none=>C.bad 202
end
def ATU (A:Nat→Bool) (st st':St):Prop:=∀ i,A i=false→st'.s i=st.s i
structure Fr (A:Nat→Bool) (st st':St):Prop where
 s:ATU A st st'
 b:uM st.σ st.n st'.σ st'.n
theorem Fr.refl (A:Nat→Bool) (st:St):Fr A st st:=⟨fun _ _=>rfl,uM.refl _ _⟩
theorem Fr.trans {A:Nat→Bool} {st st' st'':St} (h:Fr A st st') (h':Fr A st' st''):Fr A st st'':=⟨fun i hi=>(h'.s i hi).trans (h.s i hi),h.b.trans h'.b⟩
theorem Fr.mono {A B:Nat→Bool} {st st':St} (h:Fr A st st') (hab:∀ i,B i=false→A i=false):Fr B st st':=⟨fun i hi=>h.s i (hab i hi),h.b⟩
section
variable {P : Program} {E : Env} {nt : Nat} {ops : Array Oper}
theorem oZ {o:Oper} {st:St} {K:St→Prop} (h:splitK ops o st K):K st:=by
 unfold splitK at h
 split at h
 ·exact h
 ·split at h
  ·exact h
  ·rename_i t ht
   split at h
   ·rename_i b hb
    have key:∀ c,b=c→(⟨bX st.s t (.p (.v (.bool c))),st.σ,st.n⟩:St)=st:=by
     intro c hc
     subst hc
     have:bX st.s t (.p (.v (.bool b)))=st.s:=by
      funext i
      by_cases e:i=t
      ·subst e;rw[L9,hb]
      ·rw[bE _ _ e]
     rw[this]
    cases b with
    | true=>rw[←key true rfl];exact h
    | false=>rw[←key false rfl];exact h
   ·exact h
theorem eY {st:St} {dst:Option Tmp} {d:D} {σ':Nat→Option aT} {n':Nat} {K:St→Prop} (h:E2 oD nt st dst d σ' n' K):∃ st',oC nt st dst d σ' n'=some st'∧K st':=by
 unfold E2 at h
 split at h
 ·exact ⟨_,‹_›,h⟩
 ·exact h.elim
theorem kS {o:Oper} {st:St} {K:St→Prop} (h:L2 oD P E nt ops o st K):∃ st',dV P E nt ops o st=some st'∧K st':=by
 unfold L2 at h
 unfold dV
 split at h
 ·rename_i hg
  split at h
  ·rename_i hq
   obtain ⟨d,h1,h2⟩:=AMB h
   obtain ⟨st',h3,h4⟩:=eY h2
   exact ⟨st',by simp only[hq,if_true,dT,hg,h1,h3],h4⟩
  ·rename_i hq
   obtain ⟨d,σ',n',h1,h2⟩:=ALO h
   obtain ⟨st',h3,h4⟩:=eY h2
   exact ⟨st',by simp only[hq,Bool.false_eq_true,if_false,hg,h1,h3],h4⟩
 ·rename_i hg
  obtain ⟨st',h3,h4⟩:=eY h
  refine ⟨st',?_,h4⟩
  by_cases hq:cY E o.op=true
  ·simp only[hq,if_true,dT,hg,h3]
  ·simp only[hq,Bool.false_eq_true,if_false,hg,h3]
 ·exact h.elim
theorem lA {st st':St} {dst:Option Tmp} {d:D} {σ':Nat→Option aT} {n':Nat} {A:Nat→Bool} (h:oC nt st dst d σ' n'=some st') (hA:∀ t,dst=some t→A t=true) (hf:uM st.σ st.n σ' n'):Fr A st st':=by
 obtain ⟨_,rfl⟩:=tB h
 refine ⟨fun i hi=>?_,hf⟩
 unfold oE
 cases dst with
 | none=>rfl
 | some t=>exact bE _ _ fun e=>by subst e;rw[hA _ rfl] at hi;cases hi
theorem n7 (hh:iU E) {o:Oper} {st st':St} {A:Nat→Bool} (h:dV P E nt ops o st=some st') (hA:∀ t,o.dst=some t→A t=true):Fr A st st':=by
 unfold dV at h
 split at h
 ·split at h
  ·exact lA h hA (uM.refl _ _)
  ·cases h
 ·split at h
  ·split at h
   ·rename_i d σ' n' hn
    exact lA h hA (AS6 hh hn)
   ·cases h
  ·exact lA h hA (uM.refl _ _)
  ·cases h
end
end Go.Pv
