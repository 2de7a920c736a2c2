/-
  The symbolic executor, part c: operations that write or make memory; a whole region.
-/
import Derived.Test.YtdplnhkfbmgofaaGreatDoorPv2kb
set_option linter.defProp false
set_option linter.unusedSimpArgs false
namespace Go.Pv
open Go Go.RowKit
abbrev KN:=D→(Nat→Option bE)→Nat→Prop
section
variable (C : Combs) (P : Program) (E : Env)
def A02 (c:Nat) (x:Option (D×(Nat→Option bE)×Nat)) (K:KN):Prop:=match x with
 | some (d,σ',n')=>K d σ' n'
 | none=>C.bad c
def AFE (σ:Nat→Option bE) (n:Nat) (t:TypeId) (a v:D) (K:KN):Prop :=
 match a with
 | .ptr k i j=>match σ k with
  | some (.arr ro za rows)=>match ro,tsz? P t,pM v.cells with
   | false,some z,some ts=>match decide (0<z)&&ts.length == z&&ts.all T.leaf with
    | true=>C.row rows i fun r=>C.EK (decide (j+z≤r.length)) (K (.p (.v undef)) (b9 σ k (some (.arr false za (rows.set i (cA r j ts))))) (n+1))
    | false=>C.bad 101
   | _,_,_=>C.bad 102
  | _=>A02 C 103 (one n ((jV P σ t a v).map fun σ'=>(.p (.v undef),σ'))) K
 | _=>C.bad 104
def RF (a b:List (List T)):List (List T):=a++b
def Q8 (σ:Nat→Option bE) (n:Nat) (t u:TypeId) (s x:D) (K:KN):Prop :=
 match decide (t=u),mU P t with
 | true,some e =>
  match tsz? P e,tby? P e,tz? P e,SW σ x with
  | some z,some by_,some zv,some xs =>
   match decide (0<z)&&zv.cells.size == z&&zv.cells.all Value.oneCell' with
   | true=>match s with
    | .p st=>match eN st with
     | some (full,[])=>C.EK (gC z xs&&full&&decide (xs.length*by_≤140737488355328)&&decide (xs.length≤140737488355328)) (K (.own n) (b9 σ n (some (.arr false z xs))) (n+1))
     | some (full,r::rows)=>aB xs.isEmpty (K (.p st) σ (n+1)) (C.EK (full&&gC z (r::rows)&&gC z xs&&decide (((r::rows).length+xs.length)*by_≤140737488355328)&&decide ((r::rows).length+xs.length≤140737488355328)) (K (.own n) (b9 σ n (some (.arr false z (RF (r::rows) xs)))) (n+1)))
     | none=>C.bad 111
    | .own k₀=>match σ k₀ with
     | some (.arr ro z' rs)=>match ro with
      | false=>C.EK (decide (z'=z)&&gC z xs&&decide ((rs.length+xs.length)*by_≤140737488355328)&&decide (rs.length+xs.length≤140737488355328)) (K (.own n) (b9 (b9 σ k₀ none) n (some (.arr false z (rs++xs)))) (n+1))
      | true=>C.bad 112
     | _=>C.bad 113
    | _=>C.bad 114
   | false=>C.bad 115
  | _,_,_,_=>C.bad 116
 | _,_=>C.bad 117
def AT8 (σ:Nat→Option bE) (n:Nat) (t:TypeId) (len cap:D) (K:KN):Prop :=
 match mU P t with
 | some e =>
  match tsz? P e,tby? P e,tz? P e,len,cap with
  | some z,some by_,some zv,.p (.v (.int _ a)),.p (.v (.int _ b)) =>
   match decide (0<z)&&zv.cells.size == z&&zv.cells.all Value.oneCell' with
   | true=>C.EK ((decide (a=b)||decide (a=0))&&decide (0≤b)&&decide (b*by_≤140737488355328)&&decide (b≤140737488355328)) (K (.own n) (b9 σ n (some (.arr false z (List.replicate a.toNat (zv.cells.toList.map .v))))) (n+1))
   | false=>C.bad 121
  | _,_,_,_,_=>C.bad 122
 | none=>C.bad 123
def A0C (σ:Nat→Option bE) (n:Nat) (t:TypeId) (x i v:D) (K:KN):Prop :=
 match P.underlying t with
 | some (.map kt _) =>
  match s0 P kt,i,x with
  | some kd,.p (.v k),.map m =>
   match zV kd k,σ m with
   | true,some (.map ro es)=>match ro with
    | false=>C.opt _ (findD kd k es 0) fun r=>K (.p (.v undef)) (b9 σ m (some (.map false (eJ es r k v)))) (n+1)
    | true=>C.bad 131
   | _,_=>C.bad 132
  | _,_,_=>C.bad 133
 | _=>C.bad 134
def AUJ (σ:Nat→Option bE) (n:Nat) (isString:Bool) (d:D) (K:KN):Prop :=
 match isString,d with
 | true,.it k=>match σ k with
  | some (.jS s pos)=>aB (decide (pos<s.size)) (K (.p (.v (.tuple #[.bool true,.int .i64 pos,.int .i32 (Utf8.decode s pos).1]))) (b9 σ k (some (.jS s (pos+(Utf8.decode s pos).2)))) (n+1)) (K (.p (.v (.tuple #[.bool false]))) σ (n+1))
  | _=>C.bad 141
 | _,_=>C.bad 142
def ARL (fid:FuncId):Option Sy:=match P.funcs[fid]? with
 | some fn=>match fn.resultTypes.toList with
  | [t]=>match mU P t with
   | some e=>AFH P e
   | none=>none
  | _=>none
 | none=>none
def A18 (z:Nat) (g:List (List T)→Option (List (List T))) (σ:Nat→Option bE) (n:Nat) (args:List D) (K:KN):Prop :=
 match args with
 | [.own k]=>match σ k with
  | some (.arr ro z' rows)=>match ro,decide (z'=z) with
   | false,true=>C.opt (List (List T)) (g rows) fun rows'=>K (.p (.v (.tuple #[]))) (b9 σ k (some (.arr false z rows'))) (n+1)
   | _,_=>C.bad 155
  | _=>C.bad 156
 | _=>C.bad 157
def A11 (z:Nat) (g:List (List T)→List T→Option (List (List T))) (o:Option Sy) (σ:Nat→Option bE) (n:Nat) (args:List D) (K:KN):Prop :=
 match o,args with
 | some r,.own k::rest=>match σ k,pM rest with
  | some (.arr ro z' rows),some ts=>match ro,decide (z'=z)&&decide (r.w=z) with
   | false,true=>C.fresh r (g rows ts) fun l=>K (.own n) (b9 (b9 σ k none) n (some (.arr false r.w (l.map r.enc)))) (n+1)
   | _,_=>C.bad 165
  | _,_=>C.bad 166
 | _,_=>C.bad 167
def A8G (z y:Nat) (σ:Nat→Option bE) (n:Nat) (args:List D) (K:KN):Prop :=
 match args with
 | [.own k]=>match σ k with
  | some (.arr _ z' rows)=>match decide (z'=z) with
   | true=>C.EK (decide (rows.length*y≤140737488355328)&&decide (rows.length≤140737488355328)) (K (.own n) (b9 σ n (some (.arr false z rows))) (n+1))
   | false=>C.bad 168
  | _=>C.bad 169
 | [.p t]=>match eN t with
  | some (_,rows)=>C.EK ((rows.all fun r=>decide (r.length=z))&&decide (rows.length*y≤140737488355328)&&decide (rows.length≤140737488355328)) (K (.own n) (b9 σ n (some (.arr false z rows))) (n+1))
  | none=>C.bad 170
 | _=>C.bad 171
def AWM (z y:Nat) (σ:Nat→Option bE) (n:Nat) (args:List D) (K:KN):Prop :=
 match args with
 | [.p (.v (.slice none 0 0)),.p (.v (.int .i64 m))]=>C.EK (decide (0≤m)&&decide (m.toNat*y≤140737488355328)&&decide (m.toNat≤140737488355328)) (K (.own n) (b9 σ n (some (.arr false z []))) (n+1))
 | _=>C.bad 172
def ACW (σ:Nat→Option bE) (n:Nat) (f:D) (args:List D) (K:KN):Prop :=
 match jD f with
 | some (fid,a,b)=>match E fid with
  | some (.perm z g)=>A18 C z g σ n (a++args++b) K
  | some (.grow z g)=>A11 C z g (ARL P fid) σ n (a++args++b) K
  | some (.dup z y)=>A8G C z y σ n (a++args++b) K
  | some (.room z y)=>AWM C z y σ n (a++args++b) K
  | _=>match E fid,ARL P fid,pM (a++args++b) with
   | some (.fresh g),some r,some ts=>C.fresh r (g ts) fun l=>aB l.isEmpty (K (.p (.sl false [])) σ (n+1)) (K (.own n) (b9 σ n (some (.arr false r.w (l.map r.enc)))) (n+1))
   | _,_,_=>C.bad 151
 | none=>C.bad 152
def nvS (σ:Nat→Option bE) (s:Nat→D) (n:Nat) (op:Op) (K:KN):Prop :=
 match op with
 | .store t a v=>AFE C P σ n t (ev s a) (ev s v) K
 | .makeSlice t l c=>AT8 C P σ n t (ev s l) (ev s c) K
 | .mapUpdate t m i v=>A0C C P σ n t (ev s m) (ev s i) (ev s v) K
 | .insert t m i v=>A0C C P σ n t (ev s m) (ev s i) (ev s v) K
 | .next it isString=>AUJ C σ n isString (ev s it) K
 | .call c =>
  match c.callee,c.args.toList,c.argTypes.toList with
  | .builtin .append,[x,y],[t,u]=>Q8 C P σ n t u (ev s x) (ev s y) K
  | .value f,as,_=>ACW C P E σ n (ev s f) (as.map (ev s)) K
  | _,_,_=>C.bad 161
 | op=>A02 C 162 (nv P E σ s n op) K
end
section
variable {P : Program} {E : Env}
theorem PL {c:Nat} {x:Option (D×(Nat→Option bE)×Nat)} {K:KN} (h:A02 pP c x K):∃ d σ' n',x=some (d,σ',n')∧K d σ' n':=by
 unfold A02 at h
 split at h
 ·exact ⟨_,_,_,rfl,h⟩
 ·exact h.elim
theorem ZC {σ:Nat→Option bE} {n:Nat} {t:TypeId} {a v:D} {K:KN} (h:AFE pP P σ n t a v K):∃ d σ' n',one n ((jV P σ t a v).map fun σ'=>(D.p (.v undef),σ'))=some (d,σ',n')∧K d σ' n':=by
 unfold AFE at h
 split at h
 ·rename_i k i j
  split at h
  ·rename_i ro za rows hσ
   split at h
   ·rename_i z ts hz hts
    split at h
    ·rename_i hc
     simp only[Bool.and_eq_true,decide_eq_true_eq,beq_iff_eq] at hc
     obtain ⟨r,hr,hb,hk⟩:=h
     have hb:j+z≤r.length:=of_decide_eq_true hb
     refine ⟨_,_,_,?_,hk⟩
     simp only[one,jV,hσ,hz,hr,hts]
     rw[if_pos ⟨hc.1.1,hc.1.2,hb,hc.2⟩]
     rfl
    ·exact h.elim
   ·exact h.elim
  ·exact PL h
 ·exact h.elim
theorem Q9 {σ:Nat→Option bE} {n:Nat} {t u:TypeId} {s x:D} {K:KN} (h:Q8 pP P σ n t u s x K):∃ d σ' n',one n (iM P σ n t u s x)=some (d,σ',n')∧K d σ' n':=by
 unfold Q8 at h
 split at h
 ·rename_i e htu he
  have htu:t=u:=of_decide_eq_true htu
  split at h
  ·rename_i z by_ zv xs hz hby hzv hxs
   split at h
   ·rename_i hc
    simp only[Bool.and_eq_true,decide_eq_true_eq,beq_iff_eq] at hc
    split at h
    ·rename_i st
     split at h
     ·rename_i full hrow
      obtain ⟨hb,hk⟩:=h
      simp only[Bool.and_eq_true,decide_eq_true_eq] at hb
      refine ⟨_,_,_,?_,hk⟩
      simp only[one,iM,if_pos htu,he,hz,hby,hzv,hxs]
      rw[if_pos ⟨hc.1.1,hc.1.2,hc.2,hb.1.1.1⟩]
      simp only[hrow]
      rw[if_pos ⟨hb.1.1.2,hb.1.2,hb.2⟩]
      rfl
     ·rename_i full r rows hrow
      rw[r8] at h
      cases xs with
      | nil =>
       refine ⟨_,_,_,?_,h.1 rfl⟩
       simp only[one,iM,if_pos htu,he,hz,hby,hzv,hxs]
       rw[if_pos ⟨hc.1.1,hc.1.2,hc.2,rfl⟩]
       simp only[hrow]
       rfl
      | cons x0 xs =>
       obtain ⟨hb,hk⟩:=h.2 rfl
       simp only[Bool.and_eq_true,decide_eq_true_eq] at hb
       refine ⟨_,_,_,?_,hk⟩
       simp only[one,iM,if_pos htu,he,hz,hby,hzv,hxs]
       rw[if_pos ⟨hc.1.1,hc.1.2,hc.2,hb.1.1.2⟩]
       simp only[hrow]
       rw[if_pos ⟨hb.1.1.1.1,hb.1.1.1.2,hb.1.2,hb.2⟩]
       rfl
     ·exact h.elim
    ·rename_i k₀
     split at h
     ·rename_i ro z' rs hσ
      split at h
      ·obtain ⟨hb,hk⟩:=h
       simp only[Bool.and_eq_true,decide_eq_true_eq] at hb
       refine ⟨_,_,_,?_,hk⟩
       simp only[one,iM,if_pos htu,he,hz,hby,hzv,hxs]
       rw[if_pos ⟨hc.1.1,hc.1.2,hc.2,hb.1.1.2⟩]
       simp only[hσ]
       rw[if_pos ⟨hb.1.1.1,hb.1.2,hb.2⟩]
       rfl
      ·exact h.elim
     ·exact h.elim
    ·exact h.elim
   ·exact h.elim
  ·exact h.elim
 ·exact h.elim
theorem ADS {σ:Nat→Option bE} {n:Nat} {t:TypeId} {a b:D} {K:KN} (h:AT8 pP P σ n t a b K):∃ d σ' n',one n (PC P σ n t a b)=some (d,σ',n')∧K d σ' n':=by
 unfold AT8 at h
 split at h
 ·rename_i e he
  split at h
  ·rename_i z by_ zv k1 x k2 y hz hby hzv
   split at h
   ·rename_i hc
    simp only[Bool.and_eq_true,decide_eq_true_eq,beq_iff_eq] at hc
    obtain ⟨hb,hk⟩:=h
    simp only[Bool.and_eq_true,Bool.or_eq_true,decide_eq_true_eq] at hb
    refine ⟨_,_,_,?_,hk⟩
    simp only[one,PC,he,hz,hby,hzv]
    rw[if_pos ⟨hb.1.1.1,hb.1.1.2,hb.1.2,hb.2,hc.1.1,hc.1.2,hc.2⟩]
    rfl
   ·exact h.elim
  ·exact h.elim
 ·exact h.elim
theorem PF {σ:Nat→Option bE} {n:Nat} {t:TypeId} {x i v:D} {K:KN} (h:A0C pP P σ n t x i v K):∃ d σ' n',one n ((XX P σ t x i v).map fun σ'=>(D.p (.v undef),σ'))=some (d,σ',n')∧K d σ' n':=by
 unfold A0C at h
 split at h
 ·rename_i kt et hu
  split at h
  ·rename_i kd k m hk
   split at h
   ·rename_i ro es hkey hσ
    split at h
    ·obtain ⟨r,hr,hk'⟩:=h
     refine ⟨_,_,_,?_,hk'⟩
     simp only[one,XX,hu,hk,hkey,hσ,hr]
     rfl
    ·exact h.elim
   ·exact h.elim
  ·exact h.elim
 ·exact h.elim
theorem ADU {σ:Nat→Option bE} {n:Nat} {b:Bool} {x:D} {K:KN} (h:AUJ pP σ n b x K):∃ d σ' n',one n (PH σ b x)=some (d,σ',n')∧K d σ' n':=by
 unfold AUJ at h
 split at h
 ·rename_i k
  split at h
  ·rename_i s pos hσ
   rw[r8] at h
   by_cases hp:pos<s.size
   ·refine ⟨_,_,_,?_,h.1 (by simpa using hp)⟩
    simp only[one,PH,hσ]
    rw[if_pos hp]
    rfl
   ·refine ⟨_,_,_,?_,h.2 (by simpa using hp)⟩
    simp only[one,PH,hσ]
    rw[if_neg hp]
    rfl
  ·exact h.elim
 ·exact h.elim
theorem V9 {σ:Nat→Option bE} {n:Nat} {f:D} {args:List D} {K:KN} (h:ACW pP P E σ n f args K):∃ d σ' n',pZ E σ n f args=some (d,σ',n')∧K d σ' n':=by
 unfold ACW at h
 split at h
 ·rename_i fid a b hc
  split at h
  ·rename_i z g hE
   unfold A18 at h
   split at h
   ·rename_i k hargs
    split at h
    ·rename_i ro z' rows hσ
     split at h
     ·rename_i hz
      obtain ⟨rows',h1,h2⟩:=h
      refine ⟨_,_,_,?_,h2⟩
      simp only[pZ,hc,hE,WB,hargs,hσ,hz,h1,Option.map_some]
     ·exact h.elim
    ·exact h.elim
   ·exact h.elim
  ·rename_i z g hE
   unfold A11 at h
   split at h
   ·rename_i r k rest hr hargs
    split at h
    ·rename_i ro z' rows ts hσ hts
     split at h
     ·rename_i hz
      obtain ⟨l,h1,h2⟩:=h
      rw[Bool.and_eq_true] at hz
      have hw:r.w=z:=of_decide_eq_true hz.2
      rw[hw] at h2
      refine ⟨_,_,_,?_,h2⟩
      simp only[pZ,hc,hE,lA,hargs,hσ,hts,hz.1,h1,Option.map_some]
     ·exact h.elim
    ·exact h.elim
   ·exact h.elim
  ·rename_i z g hE
   unfold A8G at h
   split at h
   ·rename_i k hargs
    split at h
    ·rename_i ro z' rows hσ
     split at h
     ·rename_i hz
      obtain ⟨h1,h2⟩:=h
      refine ⟨_,_,_,?_,h2⟩
      rw[Bool.and_eq_true] at h1
      simp only[pZ,hc,hE,zP,hargs,hσ,hz,h1.1,h1.2,Bool.and_true]
     ·exact h.elim
    ·exact h.elim
   ·rename_i t hargs
    split at h
    ·rename_i full rows hr
     obtain ⟨h1,h2⟩:=h
     refine ⟨_,_,_,?_,h2⟩
     simp only[pZ,hc,hE,zP,hargs,hr,h1]
    ·exact h.elim
   ·exact h.elim
  ·rename_i z g hE
   unfold AWM at h
   split at h
   ·rename_i m hargs
    obtain ⟨h1,h2⟩:=h
    refine ⟨_,_,_,?_,h2⟩
    simp only[pZ,hc,hE,WC,hargs,h1]
   ·exact h.elim
  ·split at h
   ·rename_i g r ts hE hr hts
    obtain ⟨l,h1,h2⟩:=h
    rw[r8] at h2
    cases l with
    | nil =>
     refine ⟨_,_,_,?_,h2.1 rfl⟩
     simp only[pZ,hc,hE,hts,h1]
     rfl
    | cons x l =>
     refine ⟨_,_,_,?_,h2.2 rfl⟩
     simp only[pZ,hc,hE,hts,h1,List.map_cons,Sy.dD]
   ·exact h.elim
 ·exact h.elim
theorem AUN {σ:Nat→Option bE} {s:Nat→D} {n:Nat} {op:Op} {K:KN} (h:nvS pP P E σ s n op K):∃ d σ' n',nv P E σ s n op=some (d,σ',n')∧K d σ' n':=by
 unfold nvS at h
 split at h
 ·exact ZC h
 ·exact ADS h
 ·exact PF h
 ·exact PF h
 ·exact ADU h
 ·rename_i c
  split at h
  ·rename_i x y t u hc ha hat
   obtain ⟨d,σ',n',h1,h2⟩:=Q9 h
   refine ⟨d,σ',n',?_,h2⟩
   simp only[nv,hc,ha,hat]
   exact h1
  ·rename_i f hc
   obtain ⟨d,σ',n',h1,h2⟩:=V9 h
   refine ⟨d,σ',n',?_,h2⟩
   simp only[nv,hc,VJ,h1]
  ·exact h.elim
 ·exact PL h
end
def tX (σ:Nat→Option bE) (n:Nat) (σ':Nat→Option bE) (n':Nat):Prop:=n≤n'∧∀ k x,k<n→σ k=some x→fY x=false→σ' k=some x
theorem tX.refl (σ:Nat→Option bE) (n:Nat):tX σ n σ n:=⟨Nat.le_refl _,fun _ _ _ h _=>h⟩
theorem tX.trans {σ σ' σ'':Nat→Option bE} {n n' n'':Nat} (h:tX σ n σ' n') (h':tX σ' n' σ'' n''):tX σ n σ'' n'' :=
 ⟨Nat.le_trans h.1 h'.1,fun k x hk hx hw=>h'.2 k x (Nat.lt_of_lt_of_le hk h.1) (h.2 k x hk hx hw) hw⟩
theorem tX.new {σ:Nat→Option bE} {n n':Nat} (x:Option bE) (h:n≤n'):tX σ n (b9 σ n x) n':=⟨h,fun k y hk hy _=>by rw[bL _ _ (by omega)];exact hy⟩
theorem tX.same {σ:Nat→Option bE} {n n':Nat} (h:n≤n'):tX σ n σ n':=⟨h,fun _ _ _ h _=>h⟩
theorem tX.set {σ:Nat→Option bE} {n n' m:Nat} {x₀:bE} (x:Option bE) (h:n≤n') (hm:σ m=some x₀) (hw:fY x₀=true):tX σ n (b9 σ m x) n':=⟨h,fun k y hk hy hy'=>by
 by_cases e:k=m
 ·subst e;rw[hm] at hy;cases hy;rw[hw] at hy';cases hy'
 ·rw[bL _ _ e];exact hy⟩
def fU (E:Env):Prop:=∀ f g,E f≠some (.heap g)
section
variable {P : Program} {E : Env}
theorem eK {n:Nat} {x:Option (D×(Nat→Option bE))} {d:D} {σ':Nat→Option bE} {n':Nat} (h:one n x=some (d,σ',n')):x=some (d,σ')∧n'=n+1:=by
 unfold one at h
 cases x with
 | none=>cases h
 | some y=>obtain ⟨a,b⟩:=y;simp only[Option.map_some,Option.some.injEq,Prod.mk.injEq] at h;obtain ⟨rfl,rfl,rfl⟩:=h;exact ⟨rfl,rfl⟩
theorem AQZ (hh:fU E) {σ:Nat→Option bE} {n:Nat} {c:D} {args:List D} {d:D} {σ':Nat→Option bE} {n':Nat} (h:pZ E σ n c args=some (d,σ',n')):tX σ n σ' n':=by
 unfold pZ at h
 split at h
 ·split at h
  ·split at h
   ·split at h
    ·split at h
     ·cases h;exact .same (by omega)
     ·cases h;exact .new _ (by omega)
    ·cases h
   ·split at h
    ·split at h
     ·split at h
      ·cases h;exact .new _ (by omega)
      ·cases h
     ·cases h
    ·cases h
  ·split at h
   ·split at h
    ·cases h;exact .same (by omega)
    ·split at h
     ·cases h;exact .new _ (by omega)
     ·cases h
    ·cases h
   ·cases h
  ·rename_i hg;exact absurd hg (hh _ _)
  ·unfold WB at h
   split at h
   ·split at h
    ·rename_i hσ
     split at h
     ·simp only[Option.map_eq_some_iff,Prod.mk.injEq] at h
      obtain ⟨_,_,_,rfl,rfl⟩:=h
      exact .set _ (by omega) hσ rfl
     ·cases h
    ·cases h
   ·cases h
  ·unfold lA at h
   split at h
   ·split at h
    ·rename_i hσ
     split at h
     ·simp only[Option.map_eq_some_iff,Prod.mk.injEq] at h
      obtain ⟨_,_,_,rfl,rfl⟩:=h
      exact (tX.set (n':=n) none (Nat.le_refl _) hσ rfl).trans (.new _ (by omega))
     ·cases h
    ·cases h
   ·cases h
  ·unfold zP at h
   split at h
   ·split at h
    ·split at h
     ·simp only[Option.some.injEq,Prod.mk.injEq] at h
      obtain ⟨_,rfl,rfl⟩:=h
      exact .new _ (by omega)
     ·cases h
    ·cases h
   ·split at h
    ·split at h
     ·simp only[Option.some.injEq,Prod.mk.injEq] at h
      obtain ⟨_,rfl,rfl⟩:=h
      exact .new _ (by omega)
     ·cases h
    ·cases h
   ·cases h
  ·unfold WC at h
   split at h
   ·split at h
    ·simp only[Option.some.injEq,Prod.mk.injEq] at h
     obtain ⟨_,rfl,rfl⟩:=h
     exact .new _ (by omega)
    ·cases h
   ·cases h
  ·cases h
 ·cases h
theorem KV:∀ {ps ps':List (Nat×D)} {σ σ1:Nat→Option bE} {n n':Nat},n≤n'→yH σ ps=some (ps',σ1)→tX σ n σ1 n'
 | [],ps',σ,σ1,n,n',hn,h=>by
  simp only[yH] at h
  cases h
  exact .same hn
 | p::ps,ps',σ,σ1,n,n',hn,h=>by
  obtain ⟨pi,pd⟩:=p
  unfold yH at h
  split at h
  ·rename_i e;cases e
  ·rename_i i k r e
   cases e
   split at h
   ·rename_i z rows hk
    simp only[Option.map_eq_some_iff,Prod.mk.injEq] at h
    obtain ⟨⟨_,_⟩,hg,_,rfl⟩:=h
    exact (tX.set (n':=n) none (Nat.le_refl _) hk rfl).trans (KV hn hg)
   ·cases h
  ·rename_i i d r _ e
   cases e
   simp only[Option.map_eq_some_iff,Prod.mk.injEq] at h
   obtain ⟨⟨_,_⟩,hg,_,rfl⟩:=h
   exact KV hn hg
theorem A89 (hh:fU E) {σ:Nat→Option bE} {s:Nat→D} {n:Nat} {op:Op} {d:D} {σ':Nat→Option bE} {n':Nat} (h:nv P E σ s n op=some (d,σ',n')):tX σ n σ' n':=by
 unfold nv at h
 split at h
 ·obtain ⟨h1,rfl⟩:=eK h
  cases hz:tz? P _ with
  | none=>rw[hz] at h1;cases h1
  | some z =>
   rw[hz] at h1
   simp only[Option.bind_some,Option.map_eq_some_iff,Prod.mk.injEq] at h1
   obtain ⟨b,_,rfl,rfl⟩:=h1
   exact .new _ (by omega)
 ·obtain ⟨h1,rfl⟩:=eK h
  simp only[Option.map_eq_some_iff,Prod.mk.injEq] at h1
  obtain ⟨b,_,rfl,rfl⟩:=h1
  exact .new _ (by omega)
 ·obtain ⟨h1,rfl⟩:=eK h
  simp only[Option.map_eq_some_iff,Prod.mk.injEq] at h1
  obtain ⟨σ₂,h2,rfl,rfl⟩:=h1
  unfold jV at h2
  split at h2
  ·split at h2
   ·rename_i hσ hz
    split at h2
    ·split at h2
     ·cases h2;exact .set _ (by omega) hσ rfl
     ·cases h2
    ·cases h2
   ·rename_i hσ hz
    split at h2
    ·split at h2
     ·cases h2;exact .set _ (by omega) hσ rfl
     ·cases h2
    ·cases h2
   ·cases h2
  ·cases h2
 ·split at h
  ·rename_i r hr
   obtain ⟨h1,rfl⟩:=eK h
   cases h1
   unfold AGI at hr
   split at hr
   ·split at hr
    ·cases hr;exact .new _ (by omega)
    ·cases hr
   ·cases hr;exact .new _ (by omega)
   ·cases hr;exact .new _ (by omega)
   ·cases hr
  ·obtain ⟨h1,rfl⟩:=eK h
   unfold AED at h1
   split at h1
   ·cases h1;exact .new _ (by omega)
   ·cases h1
 ·split at h
  ·obtain ⟨h1,rfl⟩:=eK h
   cases h1;exact .new _ (by omega)
  ·split at h
   ·obtain ⟨h1,rfl⟩:=eK h
    cases h1;exact .new _ (by omega)
   ·cases h
 ·obtain ⟨h1,rfl⟩:=eK h
  unfold PC at h1
  split at h1
  ·split at h1
   ·split at h1
    ·cases h1;exact .new _ (by omega)
    ·cases h1
   ·cases h1
  ·cases h1
 ·split at h
  ·rename_i hgv
   split at h
   ·obtain ⟨h1,rfl⟩:=eK h
    cases h1;exact (KV (Nat.le_refl _) hgv).trans (.new _ (by omega))
   ·cases h
  ·cases h
 ·obtain ⟨h1,rfl⟩:=eK h
  simp only[Option.map_eq_some_iff,Prod.mk.injEq] at h1
  obtain ⟨σ₂,h2,rfl,rfl⟩:=h1
  unfold XX at h2
  split at h2
  ·split at h2
   ·split at h2
    ·rename_i hσ
     split at h2
     ·cases h2;exact .set _ (by omega) hσ rfl
     ·cases h2
    ·cases h2
   ·cases h2
  ·cases h2
 ·obtain ⟨h1,rfl⟩:=eK h
  simp only[Option.map_eq_some_iff,Prod.mk.injEq] at h1
  obtain ⟨σ₂,h2,rfl,rfl⟩:=h1
  unfold XX at h2
  split at h2
  ·split at h2
   ·split at h2
    ·rename_i hσ
     split at h2
     ·cases h2;exact .set _ (by omega) hσ rfl
     ·cases h2
    ·cases h2
   ·cases h2
  ·cases h2
 ·obtain ⟨h1,rfl⟩:=eK h
  unfold AGE at h1
  split at h1
  ·split at h1
   ·split at h1
    ·rename_i hσ
     split at h1
     ·cases h1;exact .set _ (by omega) hσ rfl
     ·cases h1;exact .set _ (by omega) hσ rfl
     ·cases h1
    ·cases h1
   ·cases h1
  ·cases h1
 ·obtain ⟨h1,rfl⟩:=eK h
  simp only[Option.map_eq_some_iff,Prod.mk.injEq] at h1
  obtain ⟨σ₂,h2,rfl,rfl⟩:=h1
  unfold AGJ at h2
  split at h2
  ·split at h2
   ·rename_i hσ
    split at h2
    ·cases h2;exact .set _ (by omega) hσ rfl
    ·cases h2
   ·cases h2
  ·cases h2
 ·obtain ⟨h1,rfl⟩:=eK h
  simp only[Option.map_eq_some_iff,Prod.mk.injEq] at h1
  obtain ⟨_,_,_,rfl⟩:=h1
  exact .same (by omega)
 ·obtain ⟨h1,rfl⟩:=eK h
  unfold PH at h1
  split at h1
  ·split at h1
   ·rename_i hσ
    split at h1
    ·cases h1;exact .set _ (by omega) hσ rfl
    ·cases h1;exact .same (by omega)
   ·cases h1
  ·cases h1
 ·split at h
  ·obtain ⟨h1,rfl⟩:=eK h
   unfold iM at h1
   split at h1
   ·split at h1
    ·split at h1
     ·split at h1
      ·split at h1
       ·split at h1
        ·split at h1
         ·cases h1;exact .new _ (by omega)
         ·cases h1
        ·split at h1
         ·cases h1;exact .same (by omega)
         ·split at h1
          ·cases h1;exact .new _ (by omega)
          ·cases h1
        ·cases h1
       ·split at h1
        ·rename_i hσ
         split at h1
         ·cases h1
          exact (tX.set (n':=n) none (Nat.le_refl _) hσ rfl).trans (.new _ (by omega))
         ·cases h1
        ·cases h1
       ·cases h1
      ·cases h1
     ·cases h1
    ·cases h1
   ·unfold AP at h1
    split at h1
    ·split at h1
     ·split at h1
      ·split at h1
       ·split at h1
        ·rename_i hσ
         split at h1
         ·cases h1
          exact (tX.set (n':=n) none (Nat.le_refl _) hσ rfl).trans (.new _ (by omega))
         ·cases h1
        ·cases h1
       ·split at h1
        ·split at h1
         ·cases h1;exact .same (by omega)
         ·split at h1
          ·cases h1;exact .same (by omega)
          ·cases h1
        ·cases h1
       ·cases h1
      ·cases h1
     ·cases h1
    ·cases h1
  ·unfold VJ at h
   split at h
   ·rename_i r hcf
    cases h
    exact AQZ hh hcf
   ·simp only[Option.map_eq_some_iff,Prod.mk.injEq] at h
    obtain ⟨_,_,_,rfl,rfl⟩:=h
    exact .same (Nat.le_refl _)
  ·cases h
 ·cases h
end
section
variable (C : Combs) (P : Program) (E : Env) (nt : Nat)
def splitK (ops:Array Oper) (o:Oper) (st:St) (K:St→Prop):Prop:=match o.guard with
 | none=>K st
 | some (j,_)=>match (ops[j]?).bind (·.dst) with
  | none=>K st
  | some t=>match st.s t with
   | .p (.v (.bool b))=>aB b (K ⟨b9 st.s t (.p (.v (.bool true))),st.σ,st.n⟩) (K ⟨b9 st.s t (.p (.v (.bool false))),st.σ,st.n⟩)
   | _=>K st
def EJ (st:St) (dst:Option Tmp) (d:D) (σ':Nat→Option bE) (n':Nat) (K:St→Prop):Prop:=match pO nt st dst d σ' n' with
 | some st'=>K st'
 | none=>C.bad 201
def yP (ops:Array Oper) (o:Oper) (st:St) (K:St→Prop):Prop :=
 match eH ops st.s o with
 | some true=>match cZ E o.op with
  | true=>qvS C P E st.n st.σ st.s (b8 true st.s) o.op fun d=>EJ C nt st o.dst d st.σ st.n K
  | false=>nvS C P E st.σ (b8 true st.s) st.n o.op fun d σ' n'=>EJ C nt st o.dst d σ' n' K
 | some false=>EJ C nt st o.dst (.p (.v undef)) st.σ st.n K
 | none=>C.bad 202
end
def A9X (A:Nat→Bool) (st st':St):Prop:=∀ i,A i=false→st'.s i=st.s i
structure Fr (A:Nat→Bool) (st st':St):Prop where
 s:A9X A st st'
 b:tX st.σ st.n st'.σ st'.n
theorem Fr.refl (A:Nat→Bool) (st:St):Fr A st st:=⟨fun _ _=>rfl,tX.refl _ _⟩
theorem Fr.trans {A:Nat→Bool} {st st' st'':St} (h:Fr A st st') (h':Fr A st' st''):Fr A st st'':=⟨fun i hi=>(h'.s i hi).trans (h.s i hi),h.b.trans h'.b⟩
theorem Fr.mono {A B:Nat→Bool} {st st':St} (h:Fr A st st') (hab:∀ i,B i=false→A i=false):Fr B st st':=⟨fun i hi=>h.s i (hab i hi),h.b⟩
section
variable {P : Program} {E : Env} {nt : Nat} {ops : Array Oper}
theorem qR {o:Oper} {st:St} {K:St→Prop} (h:splitK ops o st K):K st:=by
 unfold splitK at h
 split at h
 ·exact h
 ·split at h
  ·exact h
  ·rename_i t ht
   split at h
   ·rename_i b hb
    have key:∀ c,b=c→(⟨b9 st.s t (.p (.v (.bool c))),st.σ,st.n⟩:St)=st:=by
     intro c hc
     subst hc
     have:b9 st.s t (.p (.v (.bool b)))=st.s:=by
      funext i
      by_cases e:i=t
      ·subst e;rw[fP,hb]
      ·rw[bL _ _ e]
     rw[this]
    cases b with
    | true=>rw[←key true rfl];exact h
    | false=>rw[←key false rfl];exact h
   ·exact h
theorem gL {st:St} {dst:Option Tmp} {d:D} {σ':Nat→Option bE} {n':Nat} {K:St→Prop} (h:EJ pP nt st dst d σ' n' K):∃ st',pO nt st dst d σ' n'=some st'∧K st':=by
 unfold EJ at h
 split at h
 ·exact ⟨_,‹_›,h⟩
 ·exact h.elim
theorem iB {o:Oper} {st:St} {K:St→Prop} (h:yP pP P E nt ops o st K):∃ st',dX P E nt ops o st=some st'∧K st':=by
 unfold yP at h
 unfold dX
 split at h
 ·rename_i hg
  split at h
  ·rename_i hq
   obtain ⟨d,h1,h2⟩:=AVB h
   obtain ⟨st',h3,h4⟩:=gL h2
   exact ⟨st',by simp only[hq,if_true,fF,hg,h1,h3],h4⟩
  ·rename_i hq
   obtain ⟨d,σ',n',h1,h2⟩:=AUN h
   obtain ⟨st',h3,h4⟩:=gL h2
   exact ⟨st',by simp only[hq,Bool.false_eq_true,if_false,hg,h1,h3],h4⟩
 ·rename_i hg
  obtain ⟨st',h3,h4⟩:=gL h
  refine ⟨st',?_,h4⟩
  by_cases hq:cZ E o.op=true
  ·simp only[hq,if_true,fF,hg,h3]
  ·simp only[hq,Bool.false_eq_true,if_false,hg,h3]
 ·exact h.elim
theorem mP {st st':St} {dst:Option Tmp} {d:D} {σ':Nat→Option bE} {n':Nat} {A:Nat→Bool} (h:pO nt st dst d σ' n'=some st') (hA:∀ t,dst=some t→A t=true) (hf:tX st.σ st.n σ' n'):Fr A st st':=by
 obtain ⟨_,rfl⟩:=qK h
 refine ⟨fun i hi=>?_,hf⟩
 unfold pQ
 cases dst with
 | none=>rfl
 | some t=>exact bL _ _ fun e=>by subst e;rw[hA _ rfl] at hi;cases hi
theorem j5 (hh:fU E) {o:Oper} {st st':St} {A:Nat→Bool} (h:dX P E nt ops o st=some st') (hA:∀ t,o.dst=some t→A t=true):Fr A st st':=by
 unfold dX at h
 split at h
 ·split at h
  ·exact mP h hA (tX.refl _ _)
  ·cases h
 ·split at h
  ·split at h
   ·rename_i d σ' n' hn
    exact mP h hA (A89 hh hn)
   ·cases h
  ·exact mP h hA (tX.refl _ _)
  ·cases h
end
end Go.Pv
