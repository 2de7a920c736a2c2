/-
  The symbolic executor, part c: operations that write or make memory; a whole region.
-/
import Derived.Test.YtcdomkejkfcjlaaGreatDoorPtkb
set_option linter.unusedSimpArgs false
namespace Go.Pv
open Go Go.RowKit
abbrev KN:=D→(Nat→Option bB)→Nat→Prop
section
variable (C : Combs) (P : Program) (E : Env)
def A4U (c:Nat) (x:Option (D×(Nat→Option bB)×Nat)) (K:KN):Prop:=match x with
 | some (d,σ',n')=>K d σ' n'
 | none=>C.bad c
def APG (σ:Nat→Option bB) (n:Nat) (t:TypeId) (a v:D) (K:KN):Prop :=
 match a with
 | .ptr k i j=>match σ k with
  | some (.arr ro za rows)=>match ro,tsz? P t,sD v.cells with
   | false,some z,some ts=>match decide (0<z)&&ts.length == z&&ts.all T.leaf with
    | true=>C.row rows i fun r=>C.MB (decide (j+z≤r.length)) (K (.p (.v undef)) (cQ σ k (some (.arr false za (rows.set i (cT r j ts))))) (n+1))
    | false=>C.bad 101
   | _,_,_=>C.bad 102
  | _=>A4U C 103 (one n ((j4 P σ t a v).map fun σ'=>(.p (.v undef),σ'))) K
 | _=>C.bad 104
def BAT (a b:List (List T)):List (List T):=a++b
def ZB (σ:Nat→Option bB) (n:Nat) (t u:TypeId) (s x:D) (K:KN):Prop :=
 match decide (t=u),oH P t with
 | true,some e =>
  match tsz? P e,tby? P e,tz? P e,ABD σ x with
  | some z,some by_,some zv,some xs =>
   match decide (0<z)&&zv.cells.size == z&&zv.cells.all Value.oneCell' with
   | true=>match s with
    | .p st=>match gF st with
     | some (full,[])=>C.MB (gU z xs&&full&&decide (xs.length*by_≤140737488355328)&&decide (xs.length≤140737488355328)) (K (.own n) (cQ σ n (some (.arr false z xs))) (n+1))
     | some (full,r::rows)=>aB xs.isEmpty (K (.p st) σ (n+1)) (C.MB (full&&gU z (r::rows)&&gU z xs&&decide (((r::rows).length+xs.length)*by_≤140737488355328)&&decide ((r::rows).length+xs.length≤140737488355328)) (K (.own n) (cQ σ n (some (.arr false z (BAT (r::rows) xs)))) (n+1)))
     | none=>C.bad 111
    | .own k₀=>match σ k₀ with
     | some (.arr ro z' rs)=>match ro with
      | false=>C.MB (decide (z'=z)&&gU z xs&&decide ((rs.length+xs.length)*by_≤140737488355328)&&decide (rs.length+xs.length≤140737488355328)) (K (.own n) (cQ (cQ σ k₀ none) n (some (.arr false z (rs++xs)))) (n+1))
      | true=>C.bad 112
     | _=>C.bad 113
    | _=>C.bad 114
   | false=>C.bad 115
  | _,_,_,_=>C.bad 116
 | _,_=>C.bad 117
def A0C (σ:Nat→Option bB) (n:Nat) (t:TypeId) (len cap:D) (K:KN):Prop :=
 match oH P t with
 | some e =>
  match tsz? P e,tby? P e,tz? P e,len,cap with
  | some z,some by_,some zv,.p (.v (.int _ a)),.p (.v (.int _ b)) =>
   match decide (0<z)&&zv.cells.size == z&&zv.cells.all Value.oneCell' with
   | true=>C.MB ((decide (a=b)||decide (a=0))&&decide (0≤b)&&decide (b*by_≤140737488355328)&&decide (b≤140737488355328)) (K (.own n) (cQ σ n (some (.arr false z (List.replicate a.toNat (zv.cells.toList.map .v))))) (n+1))
   | false=>C.bad 121
  | _,_,_,_,_=>C.bad 122
 | none=>C.bad 123
def A4A (σ:Nat→Option bB) (n:Nat) (t:TypeId) (x i v:D) (K:KN):Prop :=
 match P.underlying t with
 | some (.map kt _) =>
  match vL P kt,i,x with
  | some kd,.p (.v k),.map m =>
   match CR kd k,σ m with
   | true,some (.map ro es)=>match ro with
    | false=>C.opt _ (findD kd k es 0) fun r=>K (.p (.v undef)) (cQ σ m (some (.map false (eX es r k v)))) (n+1)
    | true=>C.bad 131
   | _,_=>C.bad 132
  | _,_,_=>C.bad 133
 | _=>C.bad 134
def A0O (σ:Nat→Option bB) (n:Nat) (isString:Bool) (d:D) (K:KN):Prop :=
 match isString,d with
 | true,.it k=>match σ k with
  | some (.jZ s pos)=>aB (decide (pos<s.size)) (K (.p (.v (.tuple #[.bool true,.int .i64 pos,.int .i32 (Utf8.decode s pos).1]))) (cQ σ k (some (.jZ s (pos+(Utf8.decode s pos).2)))) (n+1)) (K (.p (.v (.tuple #[.bool false]))) σ (n+1))
  | _=>C.bad 141
 | _,_=>C.bad 142
def A6R (fid:FuncId):Option Sy:=match P.funcs[fid]? with
 | some fn=>match fn.resultTypes.toList with
  | [t]=>match oH P t with
   | some e=>API P e
   | none=>none
  | _=>none
 | none=>none
def A5Z (z:Nat) (g:List (List T)→Option (List (List T))) (σ:Nat→Option bB) (n:Nat) (args:List D) (K:KN):Prop :=
 match args with
 | [.own k]=>match σ k with
  | some (.arr ro z' rows)=>match ro,decide (z'=z) with
   | false,true=>C.opt (List (List T)) (g rows) fun rows'=>K (.p (.v (.tuple #[]))) (cQ σ k (some (.arr false z rows'))) (n+1)
   | _,_=>C.bad 155
  | _=>C.bad 156
 | _=>C.bad 157
def AM5 (σ:Nat→Option bB) (n:Nat) (f:D) (args:List D) (K:KN):Prop :=
 match kG f with
 | some (fid,a,b)=>match E fid with
  | some (.perm z g)=>A5Z C z g σ n (a++args++b) K
  | _=>match E fid,A6R P fid,sD (a++args++b) with
   | some (.fresh g),some r,some ts=>C.fresh r (g ts) fun l=>aB l.isEmpty (K (.p (.sl false [])) σ (n+1)) (K (.own n) (cQ σ n (some (.arr false r.w (l.map r.enc)))) (n+1))
   | _,_,_=>C.bad 151
 | none=>C.bad 152
def nvS (σ:Nat→Option bB) (s:Nat→D) (n:Nat) (op:Op) (K:KN):Prop :=
 match op with
 | .store t a v=>APG C P σ n t (ev s a) (ev s v) K
 | .makeSlice t l c=>A0C C P σ n t (ev s l) (ev s c) K
 | .mapUpdate t m i v=>A4A C P σ n t (ev s m) (ev s i) (ev s v) K
 | .insert t m i v=>A4A C P σ n t (ev s m) (ev s i) (ev s v) K
 | .next it isString=>A0O C σ n isString (ev s it) K
 | .call c =>
  match c.callee,c.args.toList,c.argTypes.toList with
  | .builtin .append,[x,y],[t,u]=>ZB C P σ n t u (ev s x) (ev s y) K
  | .value f,as,_=>AM5 C P E σ n (ev s f) (as.map (ev s)) K
  | _,_,_=>C.bad 161
 | op=>A4U C 162 (nv P E σ s n op) K
end
section
variable {P : Program} {E : Env}
theorem V8 {c:Nat} {x:Option (D×(Nat→Option bB)×Nat)} {K:KN} (h:A4U qP c x K):∃ d σ' n',x=some (d,σ',n')∧K d σ' n':=by
 unfold A4U at h
 split at h
 ·exact ⟨_,_,_,rfl,h⟩
 ·exact h.elim
theorem AJG {σ:Nat→Option bB} {n:Nat} {t:TypeId} {a v:D} {K:KN} (h:APG qP P σ n t a v K):∃ d σ' n',one n ((j4 P σ t a v).map fun σ'=>(D.p (.v undef),σ'))=some (d,σ',n')∧K d σ' n':=by
 unfold APG at h
 split at h
 ·rename_i k i j
  split at h
  ·rename_i ro za rows hσ
   split at h
   ·rename_i z ts hz hts
    split at h
    ·rename_i hc
     simp only[Bool.and_eq_true,decide_eq_true_eq,beq_iff_eq] at hc
     obtain ⟨r,hr,hb,hk⟩:=h
     have hb:j+z≤r.length:=of_decide_eq_true hb
     refine ⟨_,_,_,?_,hk⟩
     simp only[one,j4,hσ,hz,hr,hts]
     rw[if_pos ⟨hc.1.1,hc.1.2,hb,hc.2⟩]
     rfl
    ·exact h.elim
   ·exact h.elim
  ·exact V8 h
 ·exact h.elim
theorem ZC {σ:Nat→Option bB} {n:Nat} {t u:TypeId} {s x:D} {K:KN} (h:ZB qP P σ n t u s x K):∃ d σ' n',one n (iW P σ n t u s x)=some (d,σ',n')∧K d σ' n':=by
 unfold ZB at h
 split at h
 ·rename_i e htu he
  have htu:t=u:=of_decide_eq_true htu
  split at h
  ·rename_i z by_ zv xs hz hby hzv hxs
   split at h
   ·rename_i hc
    simp only[Bool.and_eq_true,decide_eq_true_eq,beq_iff_eq] at hc
    split at h
    ·rename_i st
     split at h
     ·rename_i full hrow
      obtain ⟨hb,hk⟩:=h
      simp only[Bool.and_eq_true,decide_eq_true_eq] at hb
      refine ⟨_,_,_,?_,hk⟩
      simp only[one,iW,if_pos htu,he,hz,hby,hzv,hxs]
      rw[if_pos ⟨hc.1.1,hc.1.2,hc.2,hb.1.1.1⟩]
      simp only[hrow]
      rw[if_pos ⟨hb.1.1.2,hb.1.2,hb.2⟩]
      rfl
     ·rename_i full r rows hrow
      rw[sZ] at h
      cases xs with
      | nil =>
       refine ⟨_,_,_,?_,h.1 rfl⟩
       simp only[one,iW,if_pos htu,he,hz,hby,hzv,hxs]
       rw[if_pos ⟨hc.1.1,hc.1.2,hc.2,rfl⟩]
       simp only[hrow]
       rfl
      | cons x0 xs =>
       obtain ⟨hb,hk⟩:=h.2 rfl
       simp only[Bool.and_eq_true,decide_eq_true_eq] at hb
       refine ⟨_,_,_,?_,hk⟩
       simp only[one,iW,if_pos htu,he,hz,hby,hzv,hxs]
       rw[if_pos ⟨hc.1.1,hc.1.2,hc.2,hb.1.1.2⟩]
       simp only[hrow]
       rw[if_pos ⟨hb.1.1.1.1,hb.1.1.1.2,hb.1.2,hb.2⟩]
       rfl
     ·exact h.elim
    ·rename_i k₀
     split at h
     ·rename_i ro z' rs hσ
      split at h
      ·obtain ⟨hb,hk⟩:=h
       simp only[Bool.and_eq_true,decide_eq_true_eq] at hb
       refine ⟨_,_,_,?_,hk⟩
       simp only[one,iW,if_pos htu,he,hz,hby,hzv,hxs]
       rw[if_pos ⟨hc.1.1,hc.1.2,hc.2,hb.1.1.2⟩]
       simp only[hσ]
       rw[if_pos ⟨hb.1.1.1,hb.1.2,hb.2⟩]
       rfl
      ·exact h.elim
     ·exact h.elim
    ·exact h.elim
   ·exact h.elim
  ·exact h.elim
 ·exact h.elim
theorem ANX {σ:Nat→Option bB} {n:Nat} {t:TypeId} {a b:D} {K:KN} (h:A0C qP P σ n t a b K):∃ d σ' n',one n (VW P σ n t a b)=some (d,σ',n')∧K d σ' n':=by
 unfold A0C at h
 split at h
 ·rename_i e he
  split at h
  ·rename_i z by_ zv k1 x k2 y hz hby hzv
   split at h
   ·rename_i hc
    simp only[Bool.and_eq_true,decide_eq_true_eq,beq_iff_eq] at hc
    obtain ⟨hb,hk⟩:=h
    simp only[Bool.and_eq_true,Bool.or_eq_true,decide_eq_true_eq] at hb
    refine ⟨_,_,_,?_,hk⟩
    simp only[one,VW,he,hz,hby,hzv]
    rw[if_pos ⟨hb.1.1.1,hb.1.1.2,hb.1.2,hb.2,hc.1.1,hc.1.2,hc.2⟩]
    rfl
   ·exact h.elim
  ·exact h.elim
 ·exact h.elim
theorem VY {σ:Nat→Option bB} {n:Nat} {t:TypeId} {x i v:D} {K:KN} (h:A4A qP P σ n t x i v K):∃ d σ' n',one n ((AII P σ t x i v).map fun σ'=>(D.p (.v undef),σ'))=some (d,σ',n')∧K d σ' n':=by
 unfold A4A at h
 split at h
 ·rename_i kt et hu
  split at h
  ·rename_i kd k m hk
   split at h
   ·rename_i ro es hkey hσ
    split at h
    ·obtain ⟨r,hr,hk'⟩:=h
     refine ⟨_,_,_,?_,hk'⟩
     simp only[one,AII,hu,hk,hkey,hσ,hr]
     rfl
    ·exact h.elim
   ·exact h.elim
  ·exact h.elim
 ·exact h.elim
theorem ANZ {σ:Nat→Option bB} {n:Nat} {b:Bool} {x:D} {K:KN} (h:A0O qP σ n b x K):∃ d σ' n',one n (V0 σ b x)=some (d,σ',n')∧K d σ' n':=by
 unfold A0O at h
 split at h
 ·rename_i k
  split at h
  ·rename_i s pos hσ
   rw[sZ] at h
   by_cases hp:pos<s.size
   ·refine ⟨_,_,_,?_,h.1 (by simpa using hp)⟩
    simp only[one,V0,hσ]
    rw[if_pos hp]
    rfl
   ·refine ⟨_,_,_,?_,h.2 (by simpa using hp)⟩
    simp only[one,V0,hσ]
    rw[if_neg hp]
    rfl
  ·exact h.elim
 ·exact h.elim
theorem AGI {σ:Nat→Option bB} {n:Nat} {f:D} {args:List D} {K:KN} (h:AM5 qP P E σ n f args K):∃ d σ' n',A7 E σ n f args=some (d,σ',n')∧K d σ' n':=by
 unfold AM5 at h
 split at h
 ·rename_i fid a b hc
  split at h
  ·rename_i z g hE
   unfold A5Z at h
   split at h
   ·rename_i k hargs
    split at h
    ·rename_i ro z' rows hσ
     split at h
     ·rename_i hz
      obtain ⟨rows',h1,h2⟩:=h
      refine ⟨_,_,_,?_,h2⟩
      simp only[A7,hc,hE,AGK,hargs,hσ,hz,h1,Option.map_some]
     ·exact h.elim
    ·exact h.elim
   ·exact h.elim
  ·split at h
   ·rename_i g r ts hE hr hts
    obtain ⟨l,h1,h2⟩:=h
    rw[sZ] at h2
    cases l with
    | nil =>
     refine ⟨_,_,_,?_,h2.1 rfl⟩
     simp only[A7,hc,hE,hts,h1]
     rfl
    | cons x l =>
     refine ⟨_,_,_,?_,h2.2 rfl⟩
     simp only[A7,hc,hE,hts,h1,List.map_cons,Sy.eD]
   ·exact h.elim
 ·exact h.elim
theorem A0U {σ:Nat→Option bB} {s:Nat→D} {n:Nat} {op:Op} {K:KN} (h:nvS qP P E σ s n op K):∃ d σ' n',nv P E σ s n op=some (d,σ',n')∧K d σ' n':=by
 unfold nvS at h
 split at h
 ·exact AJG h
 ·exact ANX h
 ·exact VY h
 ·exact VY h
 ·exact ANZ h
 ·rename_i c
  split at h
  ·rename_i x y t u hc ha hat
   obtain ⟨d,σ',n',h1,h2⟩:=ZC h
   refine ⟨d,σ',n',?_,h2⟩
   simp only[nv,hc,ha,hat]
   exact h1
  ·rename_i f hc
   obtain ⟨d,σ',n',h1,h2⟩:=AGI h
   refine ⟨d,σ',n',?_,h2⟩
   simp only[nv,hc,AFU,h1]
  ·exact h.elim
 ·exact V8 h
end
def wX (σ:Nat→Option bB) (n:Nat) (σ':Nat→Option bB) (n':Nat):Prop:=n≤n'∧∀ k x,k<n→σ k=some x→gV x=false→σ' k=some x
theorem wX.refl (σ:Nat→Option bB) (n:Nat):wX σ n σ n:=⟨Nat.le_refl _,fun _ _ _ h _=>h⟩
theorem wX.trans {σ σ' σ'':Nat→Option bB} {n n' n'':Nat} (h:wX σ n σ' n') (h':wX σ' n' σ'' n''):wX σ n σ'' n'' :=
 ⟨Nat.le_trans h.1 h'.1,fun k x hk hx hw=>h'.2 k x (Nat.lt_of_lt_of_le hk h.1) (h.2 k x hk hx hw) hw⟩
theorem wX.new {σ:Nat→Option bB} {n n':Nat} (x:Option bB) (h:n≤n'):wX σ n (cQ σ n x) n':=⟨h,fun k y hk hy _=>by rw[bO _ _ (by omega)];exact hy⟩
theorem wX.same {σ:Nat→Option bB} {n n':Nat} (h:n≤n'):wX σ n σ n':=⟨h,fun _ _ _ h _=>h⟩
theorem wX.set {σ:Nat→Option bB} {n n' m:Nat} {x₀:bB} (x:Option bB) (h:n≤n') (hm:σ m=some x₀) (hw:gV x₀=true):wX σ n (cQ σ m x) n':=⟨h,fun k y hk hy hy'=>by
 by_cases e:k=m
 ·subst e;rw[hm] at hy;cases hy;rw[hw] at hy';cases hy'
 ·rw[bO _ _ e];exact hy⟩
def j1 (E:Env):Prop:=∀ f g,E f≠some (.heap g)
section
variable {P : Program} {E : Env}
theorem e9 {n:Nat} {x:Option (D×(Nat→Option bB))} {d:D} {σ':Nat→Option bB} {n':Nat} (h:one n x=some (d,σ',n')):x=some (d,σ')∧n'=n+1:=by
 unfold one at h
 cases x with
 | none=>cases h
 | some y=>obtain ⟨a,b⟩:=y;simp only[Option.map_some,Option.some.injEq,Prod.mk.injEq] at h;obtain ⟨rfl,rfl,rfl⟩:=h;exact ⟨rfl,rfl⟩
theorem AYG (hh:j1 E) {σ:Nat→Option bB} {n:Nat} {c:D} {args:List D} {d:D} {σ':Nat→Option bB} {n':Nat} (h:A7 E σ n c args=some (d,σ',n')):wX σ n σ' n':=by
 unfold A7 at h
 split at h
 ·split at h
  ·split at h
   ·split at h
    ·split at h
     ·cases h;exact .same (by omega)
     ·cases h;exact .new _ (by omega)
    ·cases h
   ·split at h
    ·split at h
     ·split at h
      ·cases h;exact .new _ (by omega)
      ·cases h
     ·cases h
    ·cases h
  ·split at h
   ·split at h
    ·cases h;exact .same (by omega)
    ·split at h
     ·cases h;exact .new _ (by omega)
     ·cases h
    ·cases h
   ·cases h
  ·rename_i hg;exact absurd hg (hh _ _)
  ·unfold AGK at h
   split at h
   ·split at h
    ·rename_i hσ
     split at h
     ·simp only[Option.map_eq_some_iff,Prod.mk.injEq] at h
      obtain ⟨_,_,_,rfl,rfl⟩:=h
      exact .set _ (by omega) hσ rfl
     ·cases h
    ·cases h
   ·cases h
  ·cases h
 ·cases h
theorem Q4:∀ {ps ps':List (Nat×D)} {σ σ1:Nat→Option bB} {n n':Nat},n≤n'→BD σ ps=some (ps',σ1)→wX σ n σ1 n'
 | [],ps',σ,σ1,n,n',hn,h=>by
  simp only[BD] at h
  cases h
  exact .same hn
 | p::ps,ps',σ,σ1,n,n',hn,h=>by
  obtain ⟨pi,pd⟩:=p
  unfold BD at h
  split at h
  ·rename_i e;cases e
  ·rename_i i k r e
   cases e
   split at h
   ·rename_i z rows hk
    simp only[Option.map_eq_some_iff,Prod.mk.injEq] at h
    obtain ⟨⟨_,_⟩,hg,_,rfl⟩:=h
    exact (wX.set (n':=n) none (Nat.le_refl _) hk rfl).trans (Q4 hn hg)
   ·cases h
  ·rename_i i d r _ e
   cases e
   simp only[Option.map_eq_some_iff,Prod.mk.injEq] at h
   obtain ⟨⟨_,_⟩,hg,_,rfl⟩:=h
   exact Q4 hn hg
theorem A94 (hh:j1 E) {σ:Nat→Option bB} {s:Nat→D} {n:Nat} {op:Op} {d:D} {σ':Nat→Option bB} {n':Nat} (h:nv P E σ s n op=some (d,σ',n')):wX σ n σ' n':=by
 unfold nv at h
 split at h
 ·obtain ⟨h1,rfl⟩:=e9 h
  cases hz:tz? P _ with
  | none=>rw[hz] at h1;cases h1
  | some z =>
   rw[hz] at h1
   simp only[Option.bind_some,Option.map_eq_some_iff,Prod.mk.injEq] at h1
   obtain ⟨b,_,rfl,rfl⟩:=h1
   exact .new _ (by omega)
 ·obtain ⟨h1,rfl⟩:=e9 h
  simp only[Option.map_eq_some_iff,Prod.mk.injEq] at h1
  obtain ⟨b,_,rfl,rfl⟩:=h1
  exact .new _ (by omega)
 ·obtain ⟨h1,rfl⟩:=e9 h
  simp only[Option.map_eq_some_iff,Prod.mk.injEq] at h1
  obtain ⟨σ₂,h2,rfl,rfl⟩:=h1
  unfold j4 at h2
  split at h2
  ·split at h2
   ·rename_i hσ hz
    split at h2
    ·split at h2
     ·cases h2;exact .set _ (by omega) hσ rfl
     ·cases h2
    ·cases h2
   ·rename_i hσ hz
    split at h2
    ·split at h2
     ·cases h2;exact .set _ (by omega) hσ rfl
     ·cases h2
    ·cases h2
   ·cases h2
  ·cases h2
 ·split at h
  ·rename_i r hr
   obtain ⟨h1,rfl⟩:=e9 h
   cases h1
   unfold AQV at hr
   split at hr
   ·split at hr
    ·cases hr;exact .new _ (by omega)
    ·cases hr
   ·cases hr;exact .new _ (by omega)
   ·cases hr;exact .new _ (by omega)
   ·cases hr
  ·obtain ⟨h1,rfl⟩:=e9 h
   unfold AOZ at h1
   split at h1
   ·cases h1;exact .new _ (by omega)
   ·cases h1
 ·split at h
  ·obtain ⟨h1,rfl⟩:=e9 h
   cases h1;exact .new _ (by omega)
  ·split at h
   ·obtain ⟨h1,rfl⟩:=e9 h
    cases h1;exact .new _ (by omega)
   ·cases h
 ·obtain ⟨h1,rfl⟩:=e9 h
  unfold VW at h1
  split at h1
  ·split at h1
   ·split at h1
    ·cases h1;exact .new _ (by omega)
    ·cases h1
   ·cases h1
  ·cases h1
 ·split at h
  ·rename_i hgv
   split at h
   ·obtain ⟨h1,rfl⟩:=e9 h
    cases h1;exact (Q4 (Nat.le_refl _) hgv).trans (.new _ (by omega))
   ·cases h
  ·cases h
 ·obtain ⟨h1,rfl⟩:=e9 h
  simp only[Option.map_eq_some_iff,Prod.mk.injEq] at h1
  obtain ⟨σ₂,h2,rfl,rfl⟩:=h1
  unfold AII at h2
  split at h2
  ·split at h2
   ·split at h2
    ·rename_i hσ
     split at h2
     ·cases h2;exact .set _ (by omega) hσ rfl
     ·cases h2
    ·cases h2
   ·cases h2
  ·cases h2
 ·obtain ⟨h1,rfl⟩:=e9 h
  simp only[Option.map_eq_some_iff,Prod.mk.injEq] at h1
  obtain ⟨σ₂,h2,rfl,rfl⟩:=h1
  unfold AII at h2
  split at h2
  ·split at h2
   ·split at h2
    ·rename_i hσ
     split at h2
     ·cases h2;exact .set _ (by omega) hσ rfl
     ·cases h2
    ·cases h2
   ·cases h2
  ·cases h2
 ·obtain ⟨h1,rfl⟩:=e9 h
  unfold AQS at h1
  split at h1
  ·split at h1
   ·split at h1
    ·rename_i hσ
     split at h1
     ·cases h1;exact .set _ (by omega) hσ rfl
     ·cases h1;exact .set _ (by omega) hσ rfl
     ·cases h1
    ·cases h1
   ·cases h1
  ·cases h1
 ·obtain ⟨h1,rfl⟩:=e9 h
  simp only[Option.map_eq_some_iff,Prod.mk.injEq] at h1
  obtain ⟨σ₂,h2,rfl,rfl⟩:=h1
  unfold AQW at h2
  split at h2
  ·split at h2
   ·rename_i hσ
    split at h2
    ·cases h2;exact .set _ (by omega) hσ rfl
    ·cases h2
   ·cases h2
  ·cases h2
 ·obtain ⟨h1,rfl⟩:=e9 h
  simp only[Option.map_eq_some_iff,Prod.mk.injEq] at h1
  obtain ⟨_,_,_,rfl⟩:=h1
  exact .same (by omega)
 ·obtain ⟨h1,rfl⟩:=e9 h
  unfold V0 at h1
  split at h1
  ·split at h1
   ·rename_i hσ
    split at h1
    ·cases h1;exact .set _ (by omega) hσ rfl
    ·cases h1;exact .same (by omega)
   ·cases h1
  ·cases h1
 ·split at h
  ·obtain ⟨h1,rfl⟩:=e9 h
   unfold iW at h1
   split at h1
   ·split at h1
    ·split at h1
     ·split at h1
      ·split at h1
       ·split at h1
        ·split at h1
         ·cases h1;exact .new _ (by omega)
         ·cases h1
        ·split at h1
         ·cases h1;exact .same (by omega)
         ·split at h1
          ·cases h1;exact .new _ (by omega)
          ·cases h1
        ·cases h1
       ·split at h1
        ·rename_i hσ
         split at h1
         ·cases h1
          exact (wX.set (n':=n) none (Nat.le_refl _) hσ rfl).trans (.new _ (by omega))
         ·cases h1
        ·cases h1
       ·cases h1
      ·cases h1
     ·cases h1
    ·cases h1
   ·cases h1
  ·unfold AFU at h
   split at h
   ·rename_i r hcf
    cases h
    exact AYG hh hcf
   ·simp only[Option.map_eq_some_iff,Prod.mk.injEq] at h
    obtain ⟨_,_,_,rfl,rfl⟩:=h
    exact .same (Nat.le_refl _)
  ·cases h
 ·cases h
end
section
variable (C : Combs) (P : Program) (E : Env) (nt : Nat)
def splitK (ops:Array Oper) (o:Oper) (st:St) (K:St→Prop):Prop:=match o.guard with
 | none=>K st
 | some (j,_)=>match (ops[j]?).bind (·.dst) with
  | none=>K st
  | some t=>match st.s t with
   | .p (.v (.bool b))=>aB b (K ⟨cQ st.s t (.p (.v (.bool true))),st.σ,st.n⟩) (K ⟨cQ st.s t (.p (.v (.bool false))),st.σ,st.n⟩)
   | _=>K st
def JD (st:St) (dst:Option Tmp) (d:D) (σ':Nat→Option bB) (n':Nat) (K:St→Prop):Prop:=match qO nt st dst d σ' n' with
 | some st'=>K st'
 | none=>C.bad 201
def LM (ops:Array Oper) (o:Oper) (st:St) (K:St→Prop):Prop :=
 match fL ops st.s o with
 | some true=>match eE E o.op with
  | true=>qvS C P E st.n st.σ st.s (bY true st.s) o.op fun d=>JD C nt st o.dst d st.σ st.n K
  | false=>nvS C P E st.σ (bY true st.s) st.n o.op fun d σ' n'=>JD C nt st o.dst d σ' n' K
 | some false=>JD C nt st o.dst (.p (.v undef)) st.σ st.n K
 | none=>C.bad 202
end
def BAQ (A:Nat→Bool) (st st':St):Prop:=∀ i,A i=false→st'.s i=st.s i
structure Fr (A:Nat→Bool) (st st':St):Prop where
 s:BAQ A st st'
 b:wX st.σ st.n st'.σ st'.n
theorem Fr.refl (A:Nat→Bool) (st:St):Fr A st st:=⟨fun _ _=>rfl,wX.refl _ _⟩
theorem Fr.trans {A:Nat→Bool} {st st' st'':St} (h:Fr A st st') (h':Fr A st' st''):Fr A st st'':=⟨fun i hi=>(h'.s i hi).trans (h.s i hi),h.b.trans h'.b⟩
theorem Fr.mono {A B:Nat→Bool} {st st':St} (h:Fr A st st') (hab:∀ i,B i=false→A i=false):Fr B st st':=⟨fun i hi=>h.s i (hab i hi),h.b⟩
section
variable {P : Program} {E : Env} {nt : Nat} {ops : Array Oper}
theorem rM {o:Oper} {st:St} {K:St→Prop} (h:splitK ops o st K):K st:=by
 unfold splitK at h
 split at h
 ·exact h
 ·split at h
  ·exact h
  ·rename_i t ht
   split at h
   ·rename_i b hb
    have key:∀ c,b=c→(⟨cQ st.s t (.p (.v (.bool c))),st.σ,st.n⟩:St)=st:=by
     intro c hc
     subst hc
     have:cQ st.s t (.p (.v (.bool b)))=st.s:=by
      funext i
      by_cases e:i=t
      ·subst e;rw[S3,hb]
      ·rw[bO _ _ e]
     rw[this]
    cases b with
    | true=>rw[←key true rfl];exact h
    | false=>rw[←key false rfl];exact h
   ·exact h
theorem gZ {st:St} {dst:Option Tmp} {d:D} {σ':Nat→Option bB} {n':Nat} {K:St→Prop} (h:JD qP nt st dst d σ' n' K):∃ st',qO nt st dst d σ' n'=some st'∧K st':=by
 unfold JD at h
 split at h
 ·exact ⟨_,‹_›,h⟩
 ·exact h.elim
theorem kV {o:Oper} {st:St} {K:St→Prop} (h:LM qP P E nt ops o st K):∃ st',fF P E nt ops o st=some st'∧K st':=by
 unfold LM at h
 unfold fF
 split at h
 ·rename_i hg
  split at h
  ·rename_i hq
   obtain ⟨d,h1,h2⟩:=A1K h
   obtain ⟨st',h3,h4⟩:=gZ h2
   exact ⟨st',by simp only[hq,if_true,fR,hg,h1,h3],h4⟩
  ·rename_i hq
   obtain ⟨d,σ',n',h1,h2⟩:=A0U h
   obtain ⟨st',h3,h4⟩:=gZ h2
   exact ⟨st',by simp only[hq,Bool.false_eq_true,if_false,hg,h1,h3],h4⟩
 ·rename_i hg
  obtain ⟨st',h3,h4⟩:=gZ h
  refine ⟨st',?_,h4⟩
  by_cases hq:eE E o.op=true
  ·simp only[hq,if_true,fR,hg,h3]
  ·simp only[hq,Bool.false_eq_true,if_false,hg,h3]
 ·exact h.elim
theorem nE {st st':St} {dst:Option Tmp} {d:D} {σ':Nat→Option bB} {n':Nat} {A:Nat→Bool} (h:qO nt st dst d σ' n'=some st') (hA:∀ t,dst=some t→A t=true) (hf:wX st.σ st.n σ' n'):Fr A st st':=by
 obtain ⟨_,rfl⟩:=vS h
 refine ⟨fun i hi=>?_,hf⟩
 unfold qQ
 cases dst with
 | none=>rfl
 | some t=>exact bO _ _ fun e=>by subst e;rw[hA _ rfl] at hi;cases hi
theorem nZ (hh:j1 E) {o:Oper} {st st':St} {A:Nat→Bool} (h:fF P E nt ops o st=some st') (hA:∀ t,o.dst=some t→A t=true):Fr A st st':=by
 unfold fF at h
 split at h
 ·split at h
  ·exact nE h hA (wX.refl _ _)
  ·cases h
 ·split at h
  ·split at h
   ·rename_i d σ' n' hn
    exact nE h hA (A94 hh hn)
   ·cases h
  ·exact nE h hA (wX.refl _ _)
  ·cases h
end
end Go.Pv
