/-
  The symbolic executor, part c: operations that write or make memory; a whole region.
-/
import Derived.Test.YtpkaicahnkpkhaaGreatDoorPukb
set_option linter.unusedSimpArgs false
namespace Go.Pv
open Go Go.RowKit
abbrev KN:=D→(Nat→Option aS)→Nat→Prop
section
variable (C : Combs) (P : Program) (E : Env)
def AQR (c:Nat) (x:Option (D×(Nat→Option aS)×Nat)) (K:KN):Prop:=match x with
 | some (d,σ',n')=>K d σ' n'
 | none=>C.bad c
def ABI (σ:Nat→Option aS) (n:Nat) (t:TypeId) (a v:D) (K:KN):Prop :=
 match a with
 | .ptr k i j=>match σ k with
  | some (.arr ro za rows)=>match ro,tsz? P t,lV v.cells with
   | false,some z,some ts=>match decide (0<z)&&ts.length == z&&ts.all T.leaf with
    | true=>C.row rows i fun r=>C.EM (decide (j+z≤r.length)) (K (.p (.v undef)) (b7 σ k (some (.arr false za (rows.set i (cE r j ts))))) (n+1))
    | false=>C.bad 101
   | _,_,_=>C.bad 102
  | _=>AQR C 103 (one n ((iK P σ t a v).map fun σ'=>(.p (.v undef),σ'))) K
 | _=>C.bad 104
def AWY (a b:List (List T)):List (List T):=a++b
def OA (σ:Nat→Option aS) (n:Nat) (t u:TypeId) (s x:D) (K:KN):Prop :=
 match decide (t=u),lS P t with
 | true,some e =>
  match tsz? P e,tby? P e,tz? P e,PT σ x with
  | some z,some by_,some zv,some xs =>
   match decide (0<z)&&zv.cells.size == z&&zv.cells.all Value.oneCell' with
   | true=>match s with
    | .p st=>match eH st with
     | some (full,[])=>C.EM (gC z xs&&full&&decide (xs.length*by_≤140737488355328)&&decide (xs.length≤140737488355328)) (K (.own n) (b7 σ n (some (.arr false z xs))) (n+1))
     | some (full,r::rows)=>aB xs.isEmpty (K (.p st) σ (n+1)) (C.EM (full&&gC z (r::rows)&&gC z xs&&decide (((r::rows).length+xs.length)*by_≤140737488355328)&&decide ((r::rows).length+xs.length≤140737488355328)) (K (.own n) (b7 σ n (some (.arr false z (AWY (r::rows) xs)))) (n+1)))
     | none=>C.bad 111
    | .own k₀=>match σ k₀ with
     | some (.arr ro z' rs)=>match ro with
      | false=>C.EM (decide (z'=z)&&gC z xs&&decide ((rs.length+xs.length)*by_≤140737488355328)&&decide (rs.length+xs.length≤140737488355328)) (K (.own n) (b7 (b7 σ k₀ none) n (some (.arr false z (rs++xs)))) (n+1))
      | true=>C.bad 112
     | _=>C.bad 113
    | _=>C.bad 114
   | false=>C.bad 115
  | _,_,_,_=>C.bad 116
 | _,_=>C.bad 117
def AL1 (σ:Nat→Option aS) (n:Nat) (t:TypeId) (len cap:D) (K:KN):Prop :=
 match lS P t with
 | some e =>
  match tsz? P e,tby? P e,tz? P e,len,cap with
  | some z,some by_,some zv,.p (.v (.int _ a)),.p (.v (.int _ b)) =>
   match decide (0<z)&&zv.cells.size == z&&zv.cells.all Value.oneCell' with
   | true=>C.EM ((decide (a=b)||decide (a=0))&&decide (0≤b)&&decide (b*by_≤140737488355328)&&decide (b≤140737488355328)) (K (.own n) (b7 σ n (some (.arr false z (List.replicate a.toNat (zv.cells.toList.map .v))))) (n+1))
   | false=>C.bad 121
  | _,_,_,_,_=>C.bad 122
 | none=>C.bad 123
def AP8 (σ:Nat→Option aS) (n:Nat) (t:TypeId) (x i v:D) (K:KN):Prop :=
 match P.underlying t with
 | some (.map kt _) =>
  match qH P kt,i,x with
  | some kd,.p (.v k),.map m =>
   match wA kd k,σ m with
   | true,some (.map ro es)=>match ro with
    | false=>C.opt _ (findD kd k es 0) fun r=>K (.p (.v undef)) (b7 σ m (some (.map false (cK es r k v)))) (n+1)
    | true=>C.bad 131
   | _,_=>C.bad 132
  | _,_,_=>C.bad 133
 | _=>C.bad 134
def AMC (σ:Nat→Option aS) (n:Nat) (isString:Bool) (d:D) (K:KN):Prop :=
 match isString,d with
 | true,.it k=>match σ k with
  | some (.iG s pos)=>aB (decide (pos<s.size)) (K (.p (.v (.tuple #[.bool true,.int .i64 pos,.int .i32 (Utf8.decode s pos).1]))) (b7 σ k (some (.iG s (pos+(Utf8.decode s pos).2)))) (n+1)) (K (.p (.v (.tuple #[.bool false]))) σ (n+1))
  | _=>C.bad 141
 | _,_=>C.bad 142
def ZC (fid:FuncId):Option Sy:=match P.funcs[fid]? with
 | some fn=>match fn.resultTypes.toList with
  | [t]=>match lS P t with
   | some e=>ABK P e
   | none=>none
  | _=>none
 | none=>none
def ARX (z:Nat) (g:List (List T)→Option (List (List T))) (σ:Nat→Option aS) (n:Nat) (args:List D) (K:KN):Prop :=
 match args with
 | [.own k]=>match σ k with
  | some (.arr ro z' rows)=>match ro,decide (z'=z) with
   | false,true=>C.opt (List (List T)) (g rows) fun rows'=>K (.p (.v (.tuple #[]))) (b7 σ k (some (.arr false z rows'))) (n+1)
   | _,_=>C.bad 155
  | _=>C.bad 156
 | _=>C.bad 157
def ARQ (z:Nat) (g:List (List T)→List T→Option (List (List T))) (o:Option Sy) (σ:Nat→Option aS) (n:Nat) (args:List D) (K:KN):Prop :=
 match o,args with
 | some r,.own k::rest=>match σ k,lV rest with
  | some (.arr ro z' rows),some ts=>match ro,decide (z'=z)&&decide (r.w=z) with
   | false,true=>C.fresh r (g rows ts) fun l=>K (.own n) (b7 (b7 σ k none) n (some (.arr false r.w (l.map r.enc)))) (n+1)
   | _,_=>C.bad 165
  | _,_=>C.bad 166
 | _,_=>C.bad 167
def ARR (z:Nat) (g:List T→Option (List (List T))) (o:Option Sy) (σ:Nat→Option aS) (n:Nat) (args:List D) (K:KN):Prop :=
 match o,lV args with
 | some r,some ts=>match decide (r.w=z) with
  | true=>C.fresh r (g ts) fun l=>K (.own n) (b7 σ n (some (.arr false r.w (l.map r.enc)))) (n+1)
  | false=>C.bad 168
 | _,_=>C.bad 169
def ZT (σ:Nat→Option aS) (n:Nat) (f:D) (args:List D) (K:KN):Prop :=
 match iV f with
 | some (fid,a,b)=>match E fid with
  | some (.perm z g)=>ARX C z g σ n (a++args++b) K
  | some (.grow z g)=>ARQ C z g (ZC P fid) σ n (a++args++b) K
  | some (.made z g)=>ARR C z g (ZC P fid) σ n (a++args++b) K
  | _=>match E fid,ZC P fid,lV (a++args++b) with
   | some (.fresh g),some r,some ts=>C.fresh r (g ts) fun l=>aB l.isEmpty (K (.p (.sl false [])) σ (n+1)) (K (.own n) (b7 σ n (some (.arr false r.w (l.map r.enc)))) (n+1))
   | _,_,_=>C.bad 151
 | none=>C.bad 152
def nvS (σ:Nat→Option aS) (s:Nat→D) (n:Nat) (op:Op) (K:KN):Prop :=
 match op with
 | .store t a v=>ABI C P σ n t (ev s a) (ev s v) K
 | .makeSlice t l c=>AL1 C P σ n t (ev s l) (ev s c) K
 | .mapUpdate t m i v=>AP8 C P σ n t (ev s m) (ev s i) (ev s v) K
 | .insert t m i v=>AP8 C P σ n t (ev s m) (ev s i) (ev s v) K
 | .next it isString=>AMC C σ n isString (ev s it) K
 | .call c =>
  match c.callee,c.args.toList,c.argTypes.toList with
  | .builtin .append,[x,y],[t,u]=>OA C P σ n t u (ev s x) (ev s y) K
  | .value f,as,_=>ZT C P E σ n (ev s f) (as.map (ev s)) K
  | _,_,_=>C.bad 161
 | op=>AQR C 162 (nv P E σ s n op) K
end
section
variable {P : Program} {E : Env}
theorem MB {c:Nat} {x:Option (D×(Nat→Option aS)×Nat)} {K:KN} (h:AQR nK c x K):∃ d σ' n',x=some (d,σ',n')∧K d σ' n':=by
 unfold AQR at h
 split at h
 ·exact ⟨_,_,_,rfl,h⟩
 ·exact h.elim
theorem V7 {σ:Nat→Option aS} {n:Nat} {t:TypeId} {a v:D} {K:KN} (h:ABI nK P σ n t a v K):∃ d σ' n',one n ((iK P σ t a v).map fun σ'=>(D.p (.v undef),σ'))=some (d,σ',n')∧K d σ' n':=by
 unfold ABI at h
 split at h
 ·rename_i k i j
  split at h
  ·rename_i ro za rows hσ
   split at h
   ·rename_i z ts hz hts
    split at h
    ·rename_i hc
     simp only[Bool.and_eq_true,decide_eq_true_eq,beq_iff_eq] at hc
     obtain ⟨r,hr,hb,hk⟩:=h
     have hb:j+z≤r.length:=of_decide_eq_true hb
     refine ⟨_,_,_,?_,hk⟩
     simp only[one,iK,hσ,hz,hr,hts]
     rw[if_pos ⟨hc.1.1,hc.1.2,hb,hc.2⟩]
     rfl
    ·exact h.elim
   ·exact h.elim
  ·exact MB h
 ·exact h.elim
theorem OB {σ:Nat→Option aS} {n:Nat} {t u:TypeId} {s x:D} {K:KN} (h:OA nK P σ n t u s x K):∃ d σ' n',one n (gB P σ n t u s x)=some (d,σ',n')∧K d σ' n':=by
 unfold OA at h
 split at h
 ·rename_i e htu he
  have htu:t=u:=of_decide_eq_true htu
  split at h
  ·rename_i z by_ zv xs hz hby hzv hxs
   split at h
   ·rename_i hc
    simp only[Bool.and_eq_true,decide_eq_true_eq,beq_iff_eq] at hc
    split at h
    ·rename_i st
     split at h
     ·rename_i full hrow
      obtain ⟨hb,hk⟩:=h
      simp only[Bool.and_eq_true,decide_eq_true_eq] at hb
      refine ⟨_,_,_,?_,hk⟩
      simp only[one,gB,if_pos htu,he,hz,hby,hzv,hxs]
      rw[if_pos ⟨hc.1.1,hc.1.2,hc.2,hb.1.1.1⟩]
      simp only[hrow]
      rw[if_pos ⟨hb.1.1.2,hb.1.2,hb.2⟩]
      rfl
     ·rename_i full r rows hrow
      rw[pG] at h
      cases xs with
      | nil =>
       refine ⟨_,_,_,?_,h.1 rfl⟩
       simp only[one,gB,if_pos htu,he,hz,hby,hzv,hxs]
       rw[if_pos ⟨hc.1.1,hc.1.2,hc.2,rfl⟩]
       simp only[hrow]
       rfl
      | cons x0 xs =>
       obtain ⟨hb,hk⟩:=h.2 rfl
       simp only[Bool.and_eq_true,decide_eq_true_eq] at hb
       refine ⟨_,_,_,?_,hk⟩
       simp only[one,gB,if_pos htu,he,hz,hby,hzv,hxs]
       rw[if_pos ⟨hc.1.1,hc.1.2,hc.2,hb.1.1.2⟩]
       simp only[hrow]
       rw[if_pos ⟨hb.1.1.1.1,hb.1.1.1.2,hb.1.2,hb.2⟩]
       rfl
     ·exact h.elim
    ·rename_i k₀
     split at h
     ·rename_i ro z' rs hσ
      split at h
      ·obtain ⟨hb,hk⟩:=h
       simp only[Bool.and_eq_true,decide_eq_true_eq] at hb
       refine ⟨_,_,_,?_,hk⟩
       simp only[one,gB,if_pos htu,he,hz,hby,hzv,hxs]
       rw[if_pos ⟨hc.1.1,hc.1.2,hc.2,hb.1.1.2⟩]
       simp only[hσ]
       rw[if_pos ⟨hb.1.1.1,hb.1.2,hb.2⟩]
       rfl
      ·exact h.elim
     ·exact h.elim
    ·exact h.elim
   ·exact h.elim
  ·exact h.elim
 ·exact h.elim
theorem AAE {σ:Nat→Option aS} {n:Nat} {t:TypeId} {a b:D} {K:KN} (h:AL1 nK P σ n t a b K):∃ d σ' n',one n (LY P σ n t a b)=some (d,σ',n')∧K d σ' n':=by
 unfold AL1 at h
 split at h
 ·rename_i e he
  split at h
  ·rename_i z by_ zv k1 x k2 y hz hby hzv
   split at h
   ·rename_i hc
    simp only[Bool.and_eq_true,decide_eq_true_eq,beq_iff_eq] at hc
    obtain ⟨hb,hk⟩:=h
    simp only[Bool.and_eq_true,Bool.or_eq_true,decide_eq_true_eq] at hb
    refine ⟨_,_,_,?_,hk⟩
    simp only[one,LY,he,hz,hby,hzv]
    rw[if_pos ⟨hb.1.1.1,hb.1.1.2,hb.1.2,hb.2,hc.1.1,hc.1.2,hc.2⟩]
    rfl
   ·exact h.elim
  ·exact h.elim
 ·exact h.elim
theorem L0 {σ:Nat→Option aS} {n:Nat} {t:TypeId} {x i v:D} {K:KN} (h:AP8 nK P σ n t x i v K):∃ d σ' n',one n ((U8 P σ t x i v).map fun σ'=>(D.p (.v undef),σ'))=some (d,σ',n')∧K d σ' n':=by
 unfold AP8 at h
 split at h
 ·rename_i kt et hu
  split at h
  ·rename_i kd k m hk
   split at h
   ·rename_i ro es hkey hσ
    split at h
    ·obtain ⟨r,hr,hk'⟩:=h
     refine ⟨_,_,_,?_,hk'⟩
     simp only[one,U8,hu,hk,hkey,hσ,hr]
     rfl
    ·exact h.elim
   ·exact h.elim
  ·exact h.elim
 ·exact h.elim
theorem AAG {σ:Nat→Option aS} {n:Nat} {b:Bool} {x:D} {K:KN} (h:AMC nK σ n b x K):∃ d σ' n',one n (L2 σ b x)=some (d,σ',n')∧K d σ' n':=by
 unfold AMC at h
 split at h
 ·rename_i k
  split at h
  ·rename_i s pos hσ
   rw[pG] at h
   by_cases hp:pos<s.size
   ·refine ⟨_,_,_,?_,h.1 (by simpa using hp)⟩
    simp only[one,L2,hσ]
    rw[if_pos hp]
    rfl
   ·refine ⟨_,_,_,?_,h.2 (by simpa using hp)⟩
    simp only[one,L2,hσ]
    rw[if_neg hp]
    rfl
  ·exact h.elim
 ·exact h.elim
theorem TL {σ:Nat→Option aS} {n:Nat} {f:D} {args:List D} {K:KN} (h:ZT nK P E σ n f args K):∃ d σ' n',rA E σ n f args=some (d,σ',n')∧K d σ' n':=by
 unfold ZT at h
 split at h
 ·rename_i fid a b hc
  split at h
  ·rename_i z g hE
   unfold ARX at h
   split at h
   ·rename_i k hargs
    split at h
    ·rename_i ro z' rows hσ
     split at h
     ·rename_i hz
      obtain ⟨rows',h1,h2⟩:=h
      refine ⟨_,_,_,?_,h2⟩
      simp only[rA,hc,hE,DA,hargs,hσ,hz,h1,Option.map_some]
     ·exact h.elim
    ·exact h.elim
   ·exact h.elim
  ·rename_i z g hE
   unfold ARQ at h
   split at h
   ·rename_i r k rest hr hargs
    split at h
    ·rename_i ro z' rows ts hσ hts
     split at h
     ·rename_i hz
      obtain ⟨l,h1,h2⟩:=h
      rw[Bool.and_eq_true] at hz
      have hw:r.w=z:=of_decide_eq_true hz.2
      rw[hw] at h2
      refine ⟨_,_,_,?_,h2⟩
      simp only[rA,hc,hE,TN,hargs,hσ,hts,hz.1,h1,Option.map_some]
     ·exact h.elim
    ·exact h.elim
   ·exact h.elim
  ·rename_i z g hE
   unfold ARR at h
   split at h
   ·rename_i r ts hr hts
    split at h
    ·rename_i hz
     obtain ⟨l,h1,h2⟩:=h
     have hw:r.w=z:=of_decide_eq_true hz
     rw[hw] at h2
     refine ⟨_,_,_,?_,h2⟩
     simp only[rA,hc,hE,TO,hts,h1,Option.map_some]
    ·exact h.elim
   ·exact h.elim
  ·split at h
   ·rename_i g r ts hE hr hts
    obtain ⟨l,h1,h2⟩:=h
    rw[pG] at h2
    cases l with
    | nil =>
     refine ⟨_,_,_,?_,h2.1 rfl⟩
     simp only[rA,hc,hE,hts,h1]
     rfl
    | cons x l =>
     refine ⟨_,_,_,?_,h2.2 rfl⟩
     simp only[rA,hc,hE,hts,h1,List.map_cons,Sy.dG]
   ·exact h.elim
 ·exact h.elim
theorem AMI {σ:Nat→Option aS} {s:Nat→D} {n:Nat} {op:Op} {K:KN} (h:nvS nK P E σ s n op K):∃ d σ' n',nv P E σ s n op=some (d,σ',n')∧K d σ' n':=by
 unfold nvS at h
 split at h
 ·exact V7 h
 ·exact AAE h
 ·exact L0 h
 ·exact L0 h
 ·exact AAG h
 ·rename_i c
  split at h
  ·rename_i x y t u hc ha hat
   obtain ⟨d,σ',n',h1,h2⟩:=OB h
   refine ⟨d,σ',n',?_,h2⟩
   simp only[nv,hc,ha,hat]
   exact h1
  ·rename_i f hc
   obtain ⟨d,σ',n',h1,h2⟩:=TL h
   refine ⟨d,σ',n',?_,h2⟩
   simp only[nv,hc,SV,h1]
  ·exact h.elim
 ·exact MB h
end
def rO (σ:Nat→Option aS) (n:Nat) (σ':Nat→Option aS) (n':Nat):Prop:=n≤n'∧∀ k x,k<n→σ k=some x→fC x=false→σ' k=some x
theorem rO.refl (σ:Nat→Option aS) (n:Nat):rO σ n σ n:=⟨Nat.le_refl _,fun _ _ _ h _=>h⟩
theorem rO.trans {σ σ' σ'':Nat→Option aS} {n n' n'':Nat} (h:rO σ n σ' n') (h':rO σ' n' σ'' n''):rO σ n σ'' n'' :=
 ⟨Nat.le_trans h.1 h'.1,fun k x hk hx hw=>h'.2 k x (Nat.lt_of_lt_of_le hk h.1) (h.2 k x hk hx hw) hw⟩
theorem rO.new {σ:Nat→Option aS} {n n':Nat} (x:Option aS) (h:n≤n'):rO σ n (b7 σ n x) n':=⟨h,fun k y hk hy _=>by rw[bD _ _ (by omega)];exact hy⟩
theorem rO.same {σ:Nat→Option aS} {n n':Nat} (h:n≤n'):rO σ n σ n':=⟨h,fun _ _ _ h _=>h⟩
theorem rO.set {σ:Nat→Option aS} {n n' m:Nat} {x₀:aS} (x:Option aS) (h:n≤n') (hm:σ m=some x₀) (hw:fC x₀=true):rO σ n (b7 σ m x) n':=⟨h,fun k y hk hy hy'=>by
 by_cases e:k=m
 ·subst e;rw[hm] at hy;cases hy;rw[hw] at hy';cases hy'
 ·rw[bD _ _ e];exact hy⟩
def gO (E:Env):Prop:=∀ f g,E f≠some (.heap g)
section
variable {P : Program} {E : Env}
theorem dP {n:Nat} {x:Option (D×(Nat→Option aS))} {d:D} {σ':Nat→Option aS} {n':Nat} (h:one n x=some (d,σ',n')):x=some (d,σ')∧n'=n+1:=by
 unfold one at h
 cases x with
 | none=>cases h
 | some y=>obtain ⟨a,b⟩:=y;simp only[Option.map_some,Option.some.injEq,Prod.mk.injEq] at h;obtain ⟨rfl,rfl,rfl⟩:=h;exact ⟨rfl,rfl⟩
theorem AJ9 (hh:gO E) {σ:Nat→Option aS} {n:Nat} {c:D} {args:List D} {d:D} {σ':Nat→Option aS} {n':Nat} (h:rA E σ n c args=some (d,σ',n')):rO σ n σ' n':=by
 unfold rA at h
 split at h
 ·split at h
  ·split at h
   ·split at h
    ·split at h
     ·cases h;exact .same (by omega)
     ·cases h;exact .new _ (by omega)
    ·cases h
   ·split at h
    ·split at h
     ·split at h
      ·cases h;exact .new _ (by omega)
      ·cases h
     ·cases h
    ·cases h
  ·split at h
   ·split at h
    ·cases h;exact .same (by omega)
    ·split at h
     ·cases h;exact .new _ (by omega)
     ·cases h
    ·cases h
   ·cases h
  ·rename_i hg;exact absurd hg (hh _ _)
  ·unfold DA at h
   split at h
   ·split at h
    ·rename_i hσ
     split at h
     ·simp only[Option.map_eq_some_iff,Prod.mk.injEq] at h
      obtain ⟨_,_,_,rfl,rfl⟩:=h
      exact .set _ (by omega) hσ rfl
     ·cases h
    ·cases h
   ·cases h
  ·unfold TN at h
   split at h
   ·split at h
    ·rename_i hσ
     split at h
     ·simp only[Option.map_eq_some_iff,Prod.mk.injEq] at h
      obtain ⟨_,_,_,rfl,rfl⟩:=h
      exact (rO.set (n':=n) none (Nat.le_refl _) hσ rfl).trans (.new _ (by omega))
     ·cases h
    ·cases h
   ·cases h
  ·unfold TO at h
   split at h
   ·simp only[Option.map_eq_some_iff,Prod.mk.injEq] at h
    obtain ⟨_,_,_,rfl,rfl⟩:=h
    exact .new _ (by omega)
   ·cases h
  ·cases h
 ·cases h
theorem H5:∀ {ps ps':List (Nat×D)} {σ σ1:Nat→Option aS} {n n':Nat},n≤n'→uX σ ps=some (ps',σ1)→rO σ n σ1 n'
 | [],ps',σ,σ1,n,n',hn,h=>by
  simp only[uX] at h
  cases h
  exact .same hn
 | p::ps,ps',σ,σ1,n,n',hn,h=>by
  obtain ⟨pi,pd⟩:=p
  unfold uX at h
  split at h
  ·rename_i e;cases e
  ·rename_i i k r e
   cases e
   split at h
   ·rename_i z rows hk
    simp only[Option.map_eq_some_iff,Prod.mk.injEq] at h
    obtain ⟨⟨_,_⟩,hg,_,rfl⟩:=h
    exact (rO.set (n':=n) none (Nat.le_refl _) hk rfl).trans (H5 hn hg)
   ·cases h
  ·rename_i i d r _ e
   cases e
   simp only[Option.map_eq_some_iff,Prod.mk.injEq] at h
   obtain ⟨⟨_,_⟩,hg,_,rfl⟩:=h
   exact H5 hn hg
theorem AV8 (hh:gO E) {σ:Nat→Option aS} {s:Nat→D} {n:Nat} {op:Op} {d:D} {σ':Nat→Option aS} {n':Nat} (h:nv P E σ s n op=some (d,σ',n')):rO σ n σ' n':=by
 unfold nv at h
 split at h
 ·obtain ⟨h1,rfl⟩:=dP h
  cases hz:tz? P _ with
  | none=>rw[hz] at h1;cases h1
  | some z =>
   rw[hz] at h1
   simp only[Option.bind_some,Option.map_eq_some_iff,Prod.mk.injEq] at h1
   obtain ⟨b,_,rfl,rfl⟩:=h1
   exact .new _ (by omega)
 ·obtain ⟨h1,rfl⟩:=dP h
  simp only[Option.map_eq_some_iff,Prod.mk.injEq] at h1
  obtain ⟨b,_,rfl,rfl⟩:=h1
  exact .new _ (by omega)
 ·obtain ⟨h1,rfl⟩:=dP h
  simp only[Option.map_eq_some_iff,Prod.mk.injEq] at h1
  obtain ⟨σ₂,h2,rfl,rfl⟩:=h1
  unfold iK at h2
  split at h2
  ·split at h2
   ·rename_i hσ hz
    split at h2
    ·split at h2
     ·cases h2;exact .set _ (by omega) hσ rfl
     ·cases h2
    ·cases h2
   ·rename_i hσ hz
    split at h2
    ·split at h2
     ·cases h2;exact .set _ (by omega) hσ rfl
     ·cases h2
    ·cases h2
   ·cases h2
  ·cases h2
 ·split at h
  ·rename_i r hr
   obtain ⟨h1,rfl⟩:=dP h
   cases h1
   unfold ACY at hr
   split at hr
   ·split at hr
    ·cases hr;exact .new _ (by omega)
    ·cases hr
   ·cases hr;exact .new _ (by omega)
   ·cases hr;exact .new _ (by omega)
   ·cases hr
  ·obtain ⟨h1,rfl⟩:=dP h
   unfold AAZ at h1
   split at h1
   ·cases h1;exact .new _ (by omega)
   ·cases h1
 ·split at h
  ·obtain ⟨h1,rfl⟩:=dP h
   cases h1;exact .new _ (by omega)
  ·split at h
   ·obtain ⟨h1,rfl⟩:=dP h
    cases h1;exact .new _ (by omega)
   ·cases h
 ·obtain ⟨h1,rfl⟩:=dP h
  unfold LY at h1
  split at h1
  ·split at h1
   ·split at h1
    ·cases h1;exact .new _ (by omega)
    ·cases h1
   ·cases h1
  ·cases h1
 ·split at h
  ·rename_i hgv
   split at h
   ·obtain ⟨h1,rfl⟩:=dP h
    cases h1;exact (H5 (Nat.le_refl _) hgv).trans (.new _ (by omega))
   ·cases h
  ·cases h
 ·obtain ⟨h1,rfl⟩:=dP h
  simp only[Option.map_eq_some_iff,Prod.mk.injEq] at h1
  obtain ⟨σ₂,h2,rfl,rfl⟩:=h1
  unfold U8 at h2
  split at h2
  ·split at h2
   ·split at h2
    ·rename_i hσ
     split at h2
     ·cases h2;exact .set _ (by omega) hσ rfl
     ·cases h2
    ·cases h2
   ·cases h2
  ·cases h2
 ·obtain ⟨h1,rfl⟩:=dP h
  simp only[Option.map_eq_some_iff,Prod.mk.injEq] at h1
  obtain ⟨σ₂,h2,rfl,rfl⟩:=h1
  unfold U8 at h2
  split at h2
  ·split at h2
   ·split at h2
    ·rename_i hσ
     split at h2
     ·cases h2;exact .set _ (by omega) hσ rfl
     ·cases h2
    ·cases h2
   ·cases h2
  ·cases h2
 ·obtain ⟨h1,rfl⟩:=dP h
  unfold ACV at h1
  split at h1
  ·split at h1
   ·split at h1
    ·rename_i hσ
     split at h1
     ·cases h1;exact .set _ (by omega) hσ rfl
     ·cases h1;exact .set _ (by omega) hσ rfl
     ·cases h1
    ·cases h1
   ·cases h1
  ·cases h1
 ·obtain ⟨h1,rfl⟩:=dP h
  simp only[Option.map_eq_some_iff,Prod.mk.injEq] at h1
  obtain ⟨σ₂,h2,rfl,rfl⟩:=h1
  unfold ACZ at h2
  split at h2
  ·split at h2
   ·rename_i hσ
    split at h2
    ·cases h2;exact .set _ (by omega) hσ rfl
    ·cases h2
   ·cases h2
  ·cases h2
 ·obtain ⟨h1,rfl⟩:=dP h
  simp only[Option.map_eq_some_iff,Prod.mk.injEq] at h1
  obtain ⟨_,_,_,rfl⟩:=h1
  exact .same (by omega)
 ·obtain ⟨h1,rfl⟩:=dP h
  unfold L2 at h1
  split at h1
  ·split at h1
   ·rename_i hσ
    split at h1
    ·cases h1;exact .set _ (by omega) hσ rfl
    ·cases h1;exact .same (by omega)
   ·cases h1
  ·cases h1
 ·split at h
  ·obtain ⟨h1,rfl⟩:=dP h
   unfold gB at h1
   split at h1
   ·split at h1
    ·split at h1
     ·split at h1
      ·split at h1
       ·split at h1
        ·split at h1
         ·cases h1;exact .new _ (by omega)
         ·cases h1
        ·split at h1
         ·cases h1;exact .same (by omega)
         ·split at h1
          ·cases h1;exact .new _ (by omega)
          ·cases h1
        ·cases h1
       ·split at h1
        ·rename_i hσ
         split at h1
         ·cases h1
          exact (rO.set (n':=n) none (Nat.le_refl _) hσ rfl).trans (.new _ (by omega))
         ·cases h1
        ·cases h1
       ·cases h1
      ·cases h1
     ·cases h1
    ·cases h1
   ·cases h1
  ·unfold SV at h
   split at h
   ·rename_i r hcf
    cases h
    exact AJ9 hh hcf
   ·simp only[Option.map_eq_some_iff,Prod.mk.injEq] at h
    obtain ⟨_,_,_,rfl,rfl⟩:=h
    exact .same (Nat.le_refl _)
  ·cases h
 ·cases h
end
section
variable (C : Combs) (P : Program) (E : Env) (nt : Nat)
def splitK (ops:Array Oper) (o:Oper) (st:St) (K:St→Prop):Prop:=match o.guard with
 | none=>K st
 | some (j,_)=>match (ops[j]?).bind (·.dst) with
  | none=>K st
  | some t=>match st.s t with
   | .p (.v (.bool b))=>aB b (K ⟨b7 st.s t (.p (.v (.bool true))),st.σ,st.n⟩) (K ⟨b7 st.s t (.p (.v (.bool false))),st.σ,st.n⟩)
   | _=>K st
def B4 (st:St) (dst:Option Tmp) (d:D) (σ':Nat→Option aS) (n':Nat) (K:St→Prop):Prop:=match nJ nt st dst d σ' n' with
 | some st'=>K st'
 | none=>C.bad 201
def DQ (ops:Array Oper) (o:Oper) (st:St) (K:St→Prop):Prop :=
 match dZ ops st.s o with
 | some true=>match cZ E o.op with
  | true=>qvS C P E st.n st.σ st.s (bP true st.s) o.op fun d=>B4 C nt st o.dst d st.σ st.n K
  | false=>nvS C P E st.σ (bP true st.s) st.n o.op fun d σ' n'=>B4 C nt st o.dst d σ' n' K
 | some false=>B4 C nt st o.dst (.p (.v undef)) st.σ st.n K
 | none=>C.bad 202
end
def AWX (A:Nat→Bool) (st st':St):Prop:=∀ i,A i=false→st'.s i=st.s i
structure Fr (A:Nat→Bool) (st st':St):Prop where
 s:AWX A st st'
 b:rO st.σ st.n st'.σ st'.n
theorem Fr.refl (A:Nat→Bool) (st:St):Fr A st st:=⟨fun _ _=>rfl,rO.refl _ _⟩
theorem Fr.trans {A:Nat→Bool} {st st' st'':St} (h:Fr A st st') (h':Fr A st' st''):Fr A st st'':=⟨fun i hi=>(h'.s i hi).trans (h.s i hi),h.b.trans h'.b⟩
theorem Fr.mono {A B:Nat→Bool} {st st':St} (h:Fr A st st') (hab:∀ i,B i=false→A i=false):Fr B st st':=⟨fun i hi=>h.s i (hab i hi),h.b⟩
section
variable {P : Program} {E : Env} {nt : Nat} {ops : Array Oper}
theorem oF {o:Oper} {st:St} {K:St→Prop} (h:splitK ops o st K):K st:=by
 unfold splitK at h
 split at h
 ·exact h
 ·split at h
  ·exact h
  ·rename_i t ht
   split at h
   ·rename_i b hb
    have key:∀ c,b=c→(⟨b7 st.s t (.p (.v (.bool c))),st.σ,st.n⟩:St)=st:=by
     intro c hc
     subst hc
     have:b7 st.s t (.p (.v (.bool b)))=st.s:=by
      funext i
      by_cases e:i=t
      ·subst e;rw[JX,hb]
      ·rw[bD _ _ e]
     rw[this]
    cases b with
    | true=>rw[←key true rfl];exact h
    | false=>rw[←key false rfl];exact h
   ·exact h
theorem fE {st:St} {dst:Option Tmp} {d:D} {σ':Nat→Option aS} {n':Nat} {K:St→Prop} (h:B4 nK nt st dst d σ' n' K):∃ st',nJ nt st dst d σ' n'=some st'∧K st':=by
 unfold B4 at h
 split at h
 ·exact ⟨_,‹_›,h⟩
 ·exact h.elim
theorem jH {o:Oper} {st:St} {K:St→Prop} (h:DQ nK P E nt ops o st K):∃ st',dU P E nt ops o st=some st'∧K st':=by
 unfold DQ at h
 unfold dU
 split at h
 ·rename_i hg
  split at h
  ·rename_i hq
   obtain ⟨d,h1,h2⟩:=AM3 h
   obtain ⟨st',h3,h4⟩:=fE h2
   exact ⟨st',by simp only[hq,if_true,eG,hg,h1,h3],h4⟩
  ·rename_i hq
   obtain ⟨d,σ',n',h1,h2⟩:=AMI h
   obtain ⟨st',h3,h4⟩:=fE h2
   exact ⟨st',by simp only[hq,Bool.false_eq_true,if_false,hg,h1,h3],h4⟩
 ·rename_i hg
  obtain ⟨st',h3,h4⟩:=fE h
  refine ⟨st',?_,h4⟩
  by_cases hq:cZ E o.op=true
  ·simp only[hq,if_true,eG,hg,h3]
  ·simp only[hq,Bool.false_eq_true,if_false,hg,h3]
 ·exact h.elim
theorem kW {st st':St} {dst:Option Tmp} {d:D} {σ':Nat→Option aS} {n':Nat} {A:Nat→Bool} (h:nJ nt st dst d σ' n'=some st') (hA:∀ t,dst=some t→A t=true) (hf:rO st.σ st.n σ' n'):Fr A st st':=by
 obtain ⟨_,rfl⟩:=qO h
 refine ⟨fun i hi=>?_,hf⟩
 unfold nL
 cases dst with
 | none=>rfl
 | some t=>exact bD _ _ fun e=>by subst e;rw[hA _ rfl] at hi;cases hi
theorem lK (hh:gO E) {o:Oper} {st st':St} {A:Nat→Bool} (h:dU P E nt ops o st=some st') (hA:∀ t,o.dst=some t→A t=true):Fr A st st':=by
 unfold dU at h
 split at h
 ·split at h
  ·exact kW h hA (rO.refl _ _)
  ·cases h
 ·split at h
  ·split at h
   ·rename_i d σ' n' hn
    exact kW h hA (AV8 hh hn)
   ·cases h
  ·exact kW h hA (rO.refl _ _)
  ·cases h
end
end Go.Pv
