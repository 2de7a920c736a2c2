/-
  The symbolic executor, part c: operations that write or make memory; a whole region.
-/
import Derived.Test.YtcdomkejkfcjlaaGreatDoorPrkb
set_option linter.unusedSimpArgs false
namespace Go.Pv
open Go Go.RowKit
abbrev KN:=D→(Nat→Option a8)→Nat→Prop
section
variable (C : Combs) (P : Program) (E : Env)
def A3C (c:Nat) (x:Option (D×(Nat→Option a8)×Nat)) (K:KN):Prop:=match x with
 | some (d,σ',n')=>K d σ' n'
 | none=>C.bad c
def AOM (σ:Nat→Option a8) (n:Nat) (t:TypeId) (a v:D) (K:KN):Prop :=
 match a with
 | .ptr k i j=>match σ k with
  | some (.arr ro za rows)=>match ro,tsz? P t,uQ v.cells with
   | false,some z,some ts=>match decide (0<z)&&ts.length == z&&ts.all T.leaf with
    | true=>C.row rows i fun r=>C.LX (decide (j+z≤r.length)) (K (.p (.v undef)) (cP σ k (some (.arr false za (rows.set i (cS r j ts))))) (n+1))
    | false=>C.bad 101
   | _,_,_=>C.bad 102
  | _=>A3C C 103 (one n ((jQ P σ t a v).map fun σ'=>(.p (.v undef),σ'))) K
 | _=>C.bad 104
def A9C (a b:List (List T)):List (List T):=a++b
def YR (σ:Nat→Option a8) (n:Nat) (t u:TypeId) (s x:D) (K:KN):Prop :=
 match decide (t=u),o9 P t with
 | true,some e =>
  match tsz? P e,tby? P e,tz? P e,AAR σ x with
  | some z,some by_,some zv,some xs =>
   match decide (0<z)&&zv.cells.size == z&&zv.cells.all Value.oneCell' with
   | true=>match s with
    | .p st=>match fZ st with
     | some (full,[])=>C.LX (kA z xs&&full&&decide (xs.length*by_≤140737488355328)&&decide (xs.length≤140737488355328)) (K (.own n) (cP σ n (some (.arr false z xs))) (n+1))
     | some (full,r::rows)=>aB xs.isEmpty (K (.p st) σ (n+1)) (C.LX (full&&kA z (r::rows)&&kA z xs&&decide (((r::rows).length+xs.length)*by_≤140737488355328)&&decide ((r::rows).length+xs.length≤140737488355328)) (K (.own n) (cP σ n (some (.arr false z (A9C (r::rows) xs)))) (n+1)))
     | none=>C.bad 111
    | .own k₀=>match σ k₀ with
     | some (.arr ro z' rs)=>match ro with
      | false=>C.LX (decide (z'=z)&&kA z xs&&decide ((rs.length+xs.length)*by_≤140737488355328)&&decide (rs.length+xs.length≤140737488355328)) (K (.own n) (cP (cP σ k₀ none) n (some (.arr false z (rs++xs)))) (n+1))
      | true=>C.bad 112
     | _=>C.bad 113
    | _=>C.bad 114
   | false=>C.bad 115
  | _,_,_,_=>C.bad 116
 | _,_=>C.bad 117
def AYZ (σ:Nat→Option a8) (n:Nat) (t:TypeId) (len cap:D) (K:KN):Prop :=
 match o9 P t with
 | some e =>
  match tsz? P e,tby? P e,tz? P e,len,cap with
  | some z,some by_,some zv,.p (.v (.int _ a)),.p (.v (.int _ b)) =>
   match decide (0<z)&&zv.cells.size == z&&zv.cells.all Value.oneCell' with
   | true=>C.LX ((decide (a=b)||decide (a=0))&&decide (0≤b)&&decide (b*by_≤140737488355328)&&decide (b≤140737488355328)) (K (.own n) (cP σ n (some (.arr false z (List.replicate a.toNat (zv.cells.toList.map .v))))) (n+1))
   | false=>C.bad 121
  | _,_,_,_,_=>C.bad 122
 | none=>C.bad 123
def A2S (σ:Nat→Option a8) (n:Nat) (t:TypeId) (x i v:D) (K:KN):Prop :=
 match P.underlying t with
 | some (.map kt _) =>
  match vH P kt,i,x with
  | some kd,.p (.v k),.map m =>
   match CF kd k,σ m with
   | true,some (.map ro es)=>match ro with
    | false=>C.opt _ (findD kd k es 0) fun r=>K (.p (.v undef)) (cP σ m (some (.map false (eT es r k v)))) (n+1)
    | true=>C.bad 131
   | _,_=>C.bad 132
  | _,_,_=>C.bad 133
 | _=>C.bad 134
def AZB (σ:Nat→Option a8) (n:Nat) (isString:Bool) (d:D) (K:KN):Prop :=
 match isString,d with
 | true,.it k=>match σ k with
  | some (.jM s pos)=>aB (decide (pos<s.size)) (K (.p (.v (.tuple #[.bool true,.int .i64 pos,.int .i32 (Utf8.decode s pos).1]))) (cP σ k (some (.jM s (pos+(Utf8.decode s pos).2)))) (n+1)) (K (.p (.v (.tuple #[.bool false]))) σ (n+1))
  | _=>C.bad 141
 | _,_=>C.bad 142
def A49 (fid:FuncId):Option Sy:=match P.funcs[fid]? with
 | some fn=>match fn.resultTypes.toList with
  | [t]=>match o9 P t with
   | some e=>AOO P e
   | none=>none
  | _=>none
 | none=>none
def A4H (z:Nat) (g:List (List T)→Option (List (List T))) (σ:Nat→Option a8) (n:Nat) (args:List D) (K:KN):Prop :=
 match args with
 | [.own k]=>match σ k with
  | some (.arr ro z' rows)=>match ro,decide (z'=z) with
   | false,true=>C.opt (List (List T)) (g rows) fun rows'=>K (.p (.v (.tuple #[]))) (cP σ k (some (.arr false z rows'))) (n+1)
   | _,_=>C.bad 155
  | _=>C.bad 156
 | _=>C.bad 157
def AME (σ:Nat→Option a8) (n:Nat) (f:D) (args:List D) (K:KN):Prop :=
 match j4 f with
 | some (fid,a,b)=>match E fid with
  | some (.perm z g)=>A4H C z g σ n (a++args++b) K
  | _=>match E fid,A49 P fid,uQ (a++args++b) with
   | some (.fresh g),some r,some ts=>C.fresh r (g ts) fun l=>aB l.isEmpty (K (.p (.sl false [])) σ (n+1)) (K (.own n) (cP σ n (some (.arr false r.w (l.map r.enc)))) (n+1))
   | _,_,_=>C.bad 151
 | none=>C.bad 152
def nvS (σ:Nat→Option a8) (s:Nat→D) (n:Nat) (op:Op) (K:KN):Prop :=
 match op with
 | .store t a v=>AOM C P σ n t (ev s a) (ev s v) K
 | .makeSlice t l c=>AYZ C P σ n t (ev s l) (ev s c) K
 | .mapUpdate t m i v=>A2S C P σ n t (ev s m) (ev s i) (ev s v) K
 | .insert t m i v=>A2S C P σ n t (ev s m) (ev s i) (ev s v) K
 | .next it isString=>AZB C σ n isString (ev s it) K
 | .call c =>
  match c.callee,c.args.toList,c.argTypes.toList with
  | .builtin .append,[x,y],[t,u]=>YR C P σ n t u (ev s x) (ev s y) K
  | .value f,as,_=>AME C P E σ n (ev s f) (as.map (ev s)) K
  | _,_,_=>C.bad 161
 | op=>A3C C 162 (nv P E σ s n op) K
end
section
variable {P : Program} {E : Env}
theorem VR {c:Nat} {x:Option (D×(Nat→Option a8)×Nat)} {K:KN} (h:A3C rB c x K):∃ d σ' n',x=some (d,σ',n')∧K d σ' n':=by
 unfold A3C at h
 split at h
 ·exact ⟨_,_,_,rfl,h⟩
 ·exact h.elim
theorem AIR {σ:Nat→Option a8} {n:Nat} {t:TypeId} {a v:D} {K:KN} (h:AOM rB P σ n t a v K):∃ d σ' n',one n ((jQ P σ t a v).map fun σ'=>(D.p (.v undef),σ'))=some (d,σ',n')∧K d σ' n':=by
 unfold AOM at h
 split at h
 ·rename_i k i j
  split at h
  ·rename_i ro za rows hσ
   split at h
   ·rename_i z ts hz hts
    split at h
    ·rename_i hc
     simp only[Bool.and_eq_true,decide_eq_true_eq,beq_iff_eq] at hc
     obtain ⟨r,hr,hb,hk⟩:=h
     have hb:j+z≤r.length:=of_decide_eq_true hb
     refine ⟨_,_,_,?_,hk⟩
     simp only[one,jQ,hσ,hz,hr,hts]
     rw[if_pos ⟨hc.1.1,hc.1.2,hb,hc.2⟩]
     rfl
    ·exact h.elim
   ·exact h.elim
  ·exact VR h
 ·exact h.elim
theorem YS {σ:Nat→Option a8} {n:Nat} {t u:TypeId} {s x:D} {K:KN} (h:YR rB P σ n t u s x K):∃ d σ' n',one n (jH P σ n t u s x)=some (d,σ',n')∧K d σ' n':=by
 unfold YR at h
 split at h
 ·rename_i e htu he
  have htu:t=u:=of_decide_eq_true htu
  split at h
  ·rename_i z by_ zv xs hz hby hzv hxs
   split at h
   ·rename_i hc
    simp only[Bool.and_eq_true,decide_eq_true_eq,beq_iff_eq] at hc
    split at h
    ·rename_i st
     split at h
     ·rename_i full hrow
      obtain ⟨hb,hk⟩:=h
      simp only[Bool.and_eq_true,decide_eq_true_eq] at hb
      refine ⟨_,_,_,?_,hk⟩
      simp only[one,jH,if_pos htu,he,hz,hby,hzv,hxs]
      rw[if_pos ⟨hc.1.1,hc.1.2,hc.2,hb.1.1.1⟩]
      simp only[hrow]
      rw[if_pos ⟨hb.1.1.2,hb.1.2,hb.2⟩]
      rfl
     ·rename_i full r rows hrow
      rw[uB] at h
      cases xs with
      | nil =>
       refine ⟨_,_,_,?_,h.1 rfl⟩
       simp only[one,jH,if_pos htu,he,hz,hby,hzv,hxs]
       rw[if_pos ⟨hc.1.1,hc.1.2,hc.2,rfl⟩]
       simp only[hrow]
       rfl
      | cons x0 xs =>
       obtain ⟨hb,hk⟩:=h.2 rfl
       simp only[Bool.and_eq_true,decide_eq_true_eq] at hb
       refine ⟨_,_,_,?_,hk⟩
       simp only[one,jH,if_pos htu,he,hz,hby,hzv,hxs]
       rw[if_pos ⟨hc.1.1,hc.1.2,hc.2,hb.1.1.2⟩]
       simp only[hrow]
       rw[if_pos ⟨hb.1.1.1.1,hb.1.1.1.2,hb.1.2,hb.2⟩]
       rfl
     ·exact h.elim
    ·rename_i k₀
     split at h
     ·rename_i ro z' rs hσ
      split at h
      ·obtain ⟨hb,hk⟩:=h
       simp only[Bool.and_eq_true,decide_eq_true_eq] at hb
       refine ⟨_,_,_,?_,hk⟩
       simp only[one,jH,if_pos htu,he,hz,hby,hzv,hxs]
       rw[if_pos ⟨hc.1.1,hc.1.2,hc.2,hb.1.1.2⟩]
       simp only[hσ]
       rw[if_pos ⟨hb.1.1.1,hb.1.2,hb.2⟩]
       rfl
      ·exact h.elim
     ·exact h.elim
    ·exact h.elim
   ·exact h.elim
  ·exact h.elim
 ·exact h.elim
theorem AM4 {σ:Nat→Option a8} {n:Nat} {t:TypeId} {a b:D} {K:KN} (h:AYZ rB P σ n t a b K):∃ d σ' n',one n (VF P σ n t a b)=some (d,σ',n')∧K d σ' n':=by
 unfold AYZ at h
 split at h
 ·rename_i e he
  split at h
  ·rename_i z by_ zv k1 x k2 y hz hby hzv
   split at h
   ·rename_i hc
    simp only[Bool.and_eq_true,decide_eq_true_eq,beq_iff_eq] at hc
    obtain ⟨hb,hk⟩:=h
    simp only[Bool.and_eq_true,Bool.or_eq_true,decide_eq_true_eq] at hb
    refine ⟨_,_,_,?_,hk⟩
    simp only[one,VF,he,hz,hby,hzv]
    rw[if_pos ⟨hb.1.1.1,hb.1.1.2,hb.1.2,hb.2,hc.1.1,hc.1.2,hc.2⟩]
    rfl
   ·exact h.elim
  ·exact h.elim
 ·exact h.elim
theorem VH {σ:Nat→Option a8} {n:Nat} {t:TypeId} {x i v:D} {K:KN} (h:A2S rB P σ n t x i v K):∃ d σ' n',one n ((AHT P σ t x i v).map fun σ'=>(D.p (.v undef),σ'))=some (d,σ',n')∧K d σ' n':=by
 unfold A2S at h
 split at h
 ·rename_i kt et hu
  split at h
  ·rename_i kd k m hk
   split at h
   ·rename_i ro es hkey hσ
    split at h
    ·obtain ⟨r,hr,hk'⟩:=h
     refine ⟨_,_,_,?_,hk'⟩
     simp only[one,AHT,hu,hk,hkey,hσ,hr]
     rfl
    ·exact h.elim
   ·exact h.elim
  ·exact h.elim
 ·exact h.elim
theorem AM6 {σ:Nat→Option a8} {n:Nat} {b:Bool} {x:D} {K:KN} (h:AZB rB σ n b x K):∃ d σ' n',one n (VJ σ b x)=some (d,σ',n')∧K d σ' n':=by
 unfold AZB at h
 split at h
 ·rename_i k
  split at h
  ·rename_i s pos hσ
   rw[uB] at h
   by_cases hp:pos<s.size
   ·refine ⟨_,_,_,?_,h.1 (by simpa using hp)⟩
    simp only[one,VJ,hσ]
    rw[if_pos hp]
    rfl
   ·refine ⟨_,_,_,?_,h.2 (by simpa using hp)⟩
    simp only[one,VJ,hσ]
    rw[if_neg hp]
    rfl
  ·exact h.elim
 ·exact h.elim
theorem AFW {σ:Nat→Option a8} {n:Nat} {f:D} {args:List D} {K:KN} (h:AME rB P E σ n f args K):∃ d σ' n',AX E σ n f args=some (d,σ',n')∧K d σ' n':=by
 unfold AME at h
 split at h
 ·rename_i fid a b hc
  split at h
  ·rename_i z g hE
   unfold A4H at h
   split at h
   ·rename_i k hargs
    split at h
    ·rename_i ro z' rows hσ
     split at h
     ·rename_i hz
      obtain ⟨rows',h1,h2⟩:=h
      refine ⟨_,_,_,?_,h2⟩
      simp only[AX,hc,hE,AFY,hargs,hσ,hz,h1,Option.map_some]
     ·exact h.elim
    ·exact h.elim
   ·exact h.elim
  ·split at h
   ·rename_i g r ts hE hr hts
    obtain ⟨l,h1,h2⟩:=h
    rw[uB] at h2
    cases l with
    | nil =>
     refine ⟨_,_,_,?_,h2.1 rfl⟩
     simp only[AX,hc,hE,hts,h1]
     rfl
    | cons x l =>
     refine ⟨_,_,_,?_,h2.2 rfl⟩
     simp only[AX,hc,hE,hts,h1,List.map_cons,Sy.eG]
   ·exact h.elim
 ·exact h.elim
theorem AZH {σ:Nat→Option a8} {s:Nat→D} {n:Nat} {op:Op} {K:KN} (h:nvS rB P E σ s n op K):∃ d σ' n',nv P E σ s n op=some (d,σ',n')∧K d σ' n':=by
 unfold nvS at h
 split at h
 ·exact AIR h
 ·exact AM4 h
 ·exact VH h
 ·exact VH h
 ·exact AM6 h
 ·rename_i c
  split at h
  ·rename_i x y t u hc ha hat
   obtain ⟨d,σ',n',h1,h2⟩:=YS h
   refine ⟨d,σ',n',?_,h2⟩
   simp only[nv,hc,ha,hat]
   exact h1
  ·rename_i f hc
   obtain ⟨d,σ',n',h1,h2⟩:=AFW h
   refine ⟨d,σ',n',?_,h2⟩
   simp only[nv,hc,AE8,h1]
  ·exact h.elim
 ·exact VR h
end
def wS (σ:Nat→Option a8) (n:Nat) (σ':Nat→Option a8) (n':Nat):Prop:=n≤n'∧∀ k x,k<n→σ k=some x→gN x=false→σ' k=some x
theorem wS.refl (σ:Nat→Option a8) (n:Nat):wS σ n σ n:=⟨Nat.le_refl _,fun _ _ _ h _=>h⟩
theorem wS.trans {σ σ' σ'':Nat→Option a8} {n n' n'':Nat} (h:wS σ n σ' n') (h':wS σ' n' σ'' n''):wS σ n σ'' n'' :=
 ⟨Nat.le_trans h.1 h'.1,fun k x hk hx hw=>h'.2 k x (Nat.lt_of_lt_of_le hk h.1) (h.2 k x hk hx hw) hw⟩
theorem wS.new {σ:Nat→Option a8} {n n':Nat} (x:Option a8) (h:n≤n'):wS σ n (cP σ n x) n':=⟨h,fun k y hk hy _=>by rw[bM _ _ (by omega)];exact hy⟩
theorem wS.same {σ:Nat→Option a8} {n n':Nat} (h:n≤n'):wS σ n σ n':=⟨h,fun _ _ _ h _=>h⟩
theorem wS.set {σ:Nat→Option a8} {n n' m:Nat} {x₀:a8} (x:Option a8) (h:n≤n') (hm:σ m=some x₀) (hw:gN x₀=true):wS σ n (cP σ m x) n':=⟨h,fun k y hk hy hy'=>by
 by_cases e:k=m
 ·subst e;rw[hm] at hy;cases hy;rw[hw] at hy';cases hy'
 ·rw[bM _ _ e];exact hy⟩
def jO (E:Env):Prop:=∀ f g,E f≠some (.heap g)
section
variable {P : Program} {E : Env}
theorem eV {n:Nat} {x:Option (D×(Nat→Option a8))} {d:D} {σ':Nat→Option a8} {n':Nat} (h:one n x=some (d,σ',n')):x=some (d,σ')∧n'=n+1:=by
 unfold one at h
 cases x with
 | none=>cases h
 | some y=>obtain ⟨a,b⟩:=y;simp only[Option.map_some,Option.some.injEq,Prod.mk.injEq] at h;obtain ⟨rfl,rfl,rfl⟩:=h;exact ⟨rfl,rfl⟩
theorem AW5 (hh:jO E) {σ:Nat→Option a8} {n:Nat} {c:D} {args:List D} {d:D} {σ':Nat→Option a8} {n':Nat} (h:AX E σ n c args=some (d,σ',n')):wS σ n σ' n':=by
 unfold AX at h
 split at h
 ·split at h
  ·split at h
   ·split at h
    ·split at h
     ·cases h;exact .same (by omega)
     ·cases h;exact .new _ (by omega)
    ·cases h
   ·split at h
    ·split at h
     ·split at h
      ·cases h;exact .new _ (by omega)
      ·cases h
     ·cases h
    ·cases h
  ·split at h
   ·split at h
    ·cases h;exact .same (by omega)
    ·split at h
     ·cases h;exact .new _ (by omega)
     ·cases h
    ·cases h
   ·cases h
  ·rename_i hg;exact absurd hg (hh _ _)
  ·unfold AFY at h
   split at h
   ·split at h
    ·rename_i hσ
     split at h
     ·simp only[Option.map_eq_some_iff,Prod.mk.injEq] at h
      obtain ⟨_,_,_,rfl,rfl⟩:=h
      exact .set _ (by omega) hσ rfl
     ·cases h
    ·cases h
   ·cases h
  ·cases h
 ·cases h
theorem QV:∀ {ps ps':List (Nat×D)} {σ σ1:Nat→Option a8} {n n':Nat},n≤n'→A2 σ ps=some (ps',σ1)→wS σ n σ1 n'
 | [],ps',σ,σ1,n,n',hn,h=>by
  simp only[A2] at h
  cases h
  exact .same hn
 | p::ps,ps',σ,σ1,n,n',hn,h=>by
  obtain ⟨pi,pd⟩:=p
  unfold A2 at h
  split at h
  ·rename_i e;cases e
  ·rename_i i k r e
   cases e
   split at h
   ·rename_i z rows hk
    simp only[Option.map_eq_some_iff,Prod.mk.injEq] at h
    obtain ⟨⟨_,_⟩,hg,_,rfl⟩:=h
    exact (wS.set (n':=n) none (Nat.le_refl _) hk rfl).trans (QV hn hg)
   ·cases h
  ·rename_i i d r _ e
   cases e
   simp only[Option.map_eq_some_iff,Prod.mk.injEq] at h
   obtain ⟨⟨_,_⟩,hg,_,rfl⟩:=h
   exact QV hn hg
theorem A8N (hh:jO E) {σ:Nat→Option a8} {s:Nat→D} {n:Nat} {op:Op} {d:D} {σ':Nat→Option a8} {n':Nat} (h:nv P E σ s n op=some (d,σ',n')):wS σ n σ' n':=by
 unfold nv at h
 split at h
 ·obtain ⟨h1,rfl⟩:=eV h
  cases hz:tz? P _ with
  | none=>rw[hz] at h1;cases h1
  | some z =>
   rw[hz] at h1
   simp only[Option.bind_some,Option.map_eq_some_iff,Prod.mk.injEq] at h1
   obtain ⟨b,_,rfl,rfl⟩:=h1
   exact .new _ (by omega)
 ·obtain ⟨h1,rfl⟩:=eV h
  simp only[Option.map_eq_some_iff,Prod.mk.injEq] at h1
  obtain ⟨b,_,rfl,rfl⟩:=h1
  exact .new _ (by omega)
 ·obtain ⟨h1,rfl⟩:=eV h
  simp only[Option.map_eq_some_iff,Prod.mk.injEq] at h1
  obtain ⟨σ₂,h2,rfl,rfl⟩:=h1
  unfold jQ at h2
  split at h2
  ·split at h2
   ·rename_i hσ hz
    split at h2
    ·split at h2
     ·cases h2;exact .set _ (by omega) hσ rfl
     ·cases h2
    ·cases h2
   ·rename_i hσ hz
    split at h2
    ·split at h2
     ·cases h2;exact .set _ (by omega) hσ rfl
     ·cases h2
    ·cases h2
   ·cases h2
  ·cases h2
 ·split at h
  ·rename_i r hr
   obtain ⟨h1,rfl⟩:=eV h
   cases h1
   unfold APY at hr
   split at hr
   ·split at hr
    ·cases hr;exact .new _ (by omega)
    ·cases hr
   ·cases hr;exact .new _ (by omega)
   ·cases hr;exact .new _ (by omega)
   ·cases hr
  ·obtain ⟨h1,rfl⟩:=eV h
   unfold AN5 at h1
   split at h1
   ·cases h1;exact .new _ (by omega)
   ·cases h1
 ·split at h
  ·obtain ⟨h1,rfl⟩:=eV h
   cases h1;exact .new _ (by omega)
  ·split at h
   ·obtain ⟨h1,rfl⟩:=eV h
    cases h1;exact .new _ (by omega)
   ·cases h
 ·obtain ⟨h1,rfl⟩:=eV h
  unfold VF at h1
  split at h1
  ·split at h1
   ·split at h1
    ·cases h1;exact .new _ (by omega)
    ·cases h1
   ·cases h1
  ·cases h1
 ·split at h
  ·rename_i hgv
   split at h
   ·obtain ⟨h1,rfl⟩:=eV h
    cases h1;exact (QV (Nat.le_refl _) hgv).trans (.new _ (by omega))
   ·cases h
  ·cases h
 ·obtain ⟨h1,rfl⟩:=eV h
  simp only[Option.map_eq_some_iff,Prod.mk.injEq] at h1
  obtain ⟨σ₂,h2,rfl,rfl⟩:=h1
  unfold AHT at h2
  split at h2
  ·split at h2
   ·split at h2
    ·rename_i hσ
     split at h2
     ·cases h2;exact .set _ (by omega) hσ rfl
     ·cases h2
    ·cases h2
   ·cases h2
  ·cases h2
 ·obtain ⟨h1,rfl⟩:=eV h
  simp only[Option.map_eq_some_iff,Prod.mk.injEq] at h1
  obtain ⟨σ₂,h2,rfl,rfl⟩:=h1
  unfold AHT at h2
  split at h2
  ·split at h2
   ·split at h2
    ·rename_i hσ
     split at h2
     ·cases h2;exact .set _ (by omega) hσ rfl
     ·cases h2
    ·cases h2
   ·cases h2
  ·cases h2
 ·obtain ⟨h1,rfl⟩:=eV h
  unfold APV at h1
  split at h1
  ·split at h1
   ·split at h1
    ·rename_i hσ
     split at h1
     ·cases h1;exact .set _ (by omega) hσ rfl
     ·cases h1;exact .set _ (by omega) hσ rfl
     ·cases h1
    ·cases h1
   ·cases h1
  ·cases h1
 ·obtain ⟨h1,rfl⟩:=eV h
  simp only[Option.map_eq_some_iff,Prod.mk.injEq] at h1
  obtain ⟨σ₂,h2,rfl,rfl⟩:=h1
  unfold APZ at h2
  split at h2
  ·split at h2
   ·rename_i hσ
    split at h2
    ·cases h2;exact .set _ (by omega) hσ rfl
    ·cases h2
   ·cases h2
  ·cases h2
 ·obtain ⟨h1,rfl⟩:=eV h
  simp only[Option.map_eq_some_iff,Prod.mk.injEq] at h1
  obtain ⟨_,_,_,rfl⟩:=h1
  exact .same (by omega)
 ·obtain ⟨h1,rfl⟩:=eV h
  unfold VJ at h1
  split at h1
  ·split at h1
   ·rename_i hσ
    split at h1
    ·cases h1;exact .set _ (by omega) hσ rfl
    ·cases h1;exact .same (by omega)
   ·cases h1
  ·cases h1
 ·split at h
  ·obtain ⟨h1,rfl⟩:=eV h
   unfold jH at h1
   split at h1
   ·split at h1
    ·split at h1
     ·split at h1
      ·split at h1
       ·split at h1
        ·split at h1
         ·cases h1;exact .new _ (by omega)
         ·cases h1
        ·split at h1
         ·cases h1;exact .same (by omega)
         ·split at h1
          ·cases h1;exact .new _ (by omega)
          ·cases h1
        ·cases h1
       ·split at h1
        ·rename_i hσ
         split at h1
         ·cases h1
          exact (wS.set (n':=n) none (Nat.le_refl _) hσ rfl).trans (.new _ (by omega))
         ·cases h1
        ·cases h1
       ·cases h1
      ·cases h1
     ·cases h1
    ·cases h1
   ·cases h1
  ·unfold AE8 at h
   split at h
   ·rename_i r hcf
    cases h
    exact AW5 hh hcf
   ·simp only[Option.map_eq_some_iff,Prod.mk.injEq] at h
    obtain ⟨_,_,_,rfl,rfl⟩:=h
    exact .same (Nat.le_refl _)
  ·cases h
 ·cases h
end
section
variable (C : Combs) (P : Program) (E : Env) (nt : Nat)
def splitK (ops:Array Oper) (o:Oper) (st:St) (K:St→Prop):Prop:=match o.guard with
 | none=>K st
 | some (j,_)=>match (ops[j]?).bind (·.dst) with
  | none=>K st
  | some t=>match st.s t with
   | .p (.v (.bool b))=>aB b (K ⟨cP st.s t (.p (.v (.bool true))),st.σ,st.n⟩) (K ⟨cP st.s t (.p (.v (.bool false))),st.σ,st.n⟩)
   | _=>K st
def I1 (st:St) (dst:Option Tmp) (d:D) (σ':Nat→Option a8) (n':Nat) (K:St→Prop):Prop:=match rA nt st dst d σ' n' with
 | some st'=>K st'
 | none=>C.bad 201
def SK (ops:Array Oper) (o:Oper) (st:St) (K:St→Prop):Prop :=
 match fR ops st.s o with
 | some true=>match eJ E o.op with
  | true=>qvS C P E st.n st.σ st.s (bZ true st.s) o.op fun d=>I1 C nt st o.dst d st.σ st.n K
  | false=>nvS C P E st.σ (bZ true st.s) st.n o.op fun d σ' n'=>I1 C nt st o.dst d σ' n' K
 | some false=>I1 C nt st o.dst (.p (.v undef)) st.σ st.n K
 | none=>C.bad 202
end
def A89 (A:Nat→Bool) (st st':St):Prop:=∀ i,A i=false→st'.s i=st.s i
structure Fr (A:Nat→Bool) (st st':St):Prop where
 s:A89 A st st'
 b:wS st.σ st.n st'.σ st'.n
theorem Fr.refl (A:Nat→Bool) (st:St):Fr A st st:=⟨fun _ _=>rfl,wS.refl _ _⟩
theorem Fr.trans {A:Nat→Bool} {st st' st'':St} (h:Fr A st st') (h':Fr A st' st''):Fr A st st'':=⟨fun i hi=>(h'.s i hi).trans (h.s i hi),h.b.trans h'.b⟩
theorem Fr.mono {A B:Nat→Bool} {st st':St} (h:Fr A st st') (hab:∀ i,B i=false→A i=false):Fr B st st':=⟨fun i hi=>h.s i (hab i hi),h.b⟩
section
variable {P : Program} {E : Env} {nt : Nat} {ops : Array Oper}
theorem r7 {o:Oper} {st:St} {K:St→Prop} (h:splitK ops o st K):K st:=by
 unfold splitK at h
 split at h
 ·exact h
 ·split at h
  ·exact h
  ·rename_i t ht
   split at h
   ·rename_i b hb
    have key:∀ c,b=c→(⟨cP st.s t (.p (.v (.bool c))),st.σ,st.n⟩:St)=st:=by
     intro c hc
     subst hc
     have:cP st.s t (.p (.v (.bool b)))=st.s:=by
      funext i
      by_cases e:i=t
      ·subst e;rw[SQ,hb]
      ·rw[bM _ _ e]
     rw[this]
    cases b with
    | true=>rw[←key true rfl];exact h
    | false=>rw[←key false rfl];exact h
   ·exact h
theorem gR {st:St} {dst:Option Tmp} {d:D} {σ':Nat→Option a8} {n':Nat} {K:St→Prop} (h:I1 rB nt st dst d σ' n' K):∃ st',rA nt st dst d σ' n'=some st'∧K st':=by
 unfold I1 at h
 split at h
 ·exact ⟨_,‹_›,h⟩
 ·exact h.elim
theorem mM {o:Oper} {st:St} {K:St→Prop} (h:SK rB P E nt ops o st K):∃ st',fM P E nt ops o st=some st'∧K st':=by
 unfold SK at h
 unfold fM
 split at h
 ·rename_i hg
  split at h
  ·rename_i hq
   obtain ⟨d,h1,h2⟩:=AZ7 h
   obtain ⟨st',h3,h4⟩:=gR h2
   exact ⟨st',by simp only[hq,if_true,fL,hg,h1,h3],h4⟩
  ·rename_i hq
   obtain ⟨d,σ',n',h1,h2⟩:=AZH h
   obtain ⟨st',h3,h4⟩:=gR h2
   exact ⟨st',by simp only[hq,Bool.false_eq_true,if_false,hg,h1,h3],h4⟩
 ·rename_i hg
  obtain ⟨st',h3,h4⟩:=gR h
  refine ⟨st',?_,h4⟩
  by_cases hq:eJ E o.op=true
  ·simp only[hq,if_true,fL,hg,h3]
  ·simp only[hq,Bool.false_eq_true,if_false,hg,h3]
 ·exact h.elim
theorem mT {st st':St} {dst:Option Tmp} {d:D} {σ':Nat→Option a8} {n':Nat} {A:Nat→Bool} (h:rA nt st dst d σ' n'=some st') (hA:∀ t,dst=some t→A t=true) (hf:wS st.σ st.n σ' n'):Fr A st st':=by
 obtain ⟨_,rfl⟩:=vO h
 refine ⟨fun i hi=>?_,hf⟩
 unfold rC
 cases dst with
 | none=>rfl
 | some t=>exact bM _ _ fun e=>by subst e;rw[hA _ rfl] at hi;cases hi
theorem p9 (hh:jO E) {o:Oper} {st st':St} {A:Nat→Bool} (h:fM P E nt ops o st=some st') (hA:∀ t,o.dst=some t→A t=true):Fr A st st':=by
 unfold fM at h
 split at h
 ·split at h
  ·exact mT h hA (wS.refl _ _)
  ·cases h
 ·split at h
  ·split at h
   ·rename_i d σ' n' hn
    exact mT h hA (A8N hh hn)
   ·cases h
  ·exact mT h hA (wS.refl _ _)
  ·cases h
end
end Go.Pv
