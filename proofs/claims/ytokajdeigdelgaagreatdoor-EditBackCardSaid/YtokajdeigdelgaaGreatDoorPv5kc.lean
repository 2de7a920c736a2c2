/-
  The symbolic executor, part c: operations that write or make memory; a whole region.
-/
import Derived.Test.YtokajdeigdelgaaGreatDoorPv5kb
set_option linter.defProp false
set_option linter.unusedSimpArgs false
namespace Go.Pv
open Go Go.RowKit
abbrev KN:=D→(Nat→Option aI)→Nat→Prop
section
variable (C : Combs) (P : Program) (E : Env)
def TH (c:Nat) (x:Option (D×(Nat→Option aI)×Nat)) (K:KN):Prop:=match x with
 | some (d,σ',n')=>K d σ' n'
 | none=>C.bad c
def IF (σ:Nat→Option aI) (n:Nat) (t:TypeId) (a v:D) (K:KN):Prop :=
 match a with
 | .ptr k i j=>match σ k with
  | some (.arr ro za rows)=>match ro,tsz? P t,fY v.cells with
   | false,some z,some ts=>match decide (0<z)&&ts.length == z&&ts.all T.leaf with
    | true=>C.row rows i fun r=>C.oU (decide (j+z≤r.length)) (K (.p (.v undef)) (aX σ k (some (.arr false za (rows.set i (bR r j ts))))) (n+1))
    | false=>C.bad 101
   | _,_,_=>C.bad 102
  | _=>TH C 103 (one n ((eY P σ t a v).map fun σ'=>(.p (.v undef),σ'))) K
 | _=>C.bad 104
def l7 (a b:List (List T)):List (List T):=a++b
def tX (σ:Nat→Option aI) (n:Nat) (u e:TypeId) (s x:D) (K:KN):Prop :=
 match P.underlying u,x with
 | some .string,.p (.v (.string b))=>match tsz? P e,tby? P e,tz? P e,s with
  | some z,some by_,some zv,.own k₀=>match decide (z=1)&&zv.cells.size == 1&&zv.cells.all Value.oneCell',σ k₀ with
   | true,some (.arr false z' rs)=>C.oU (decide (z'=1)&&decide ((rs.length+b.size)*by_≤140737488355328)&&decide (rs.length+b.size≤140737488355328)) (K (.own n) (aX (aX σ k₀ none) n (some (.arr false 1 (rs++bH b)))) (n+1))
   | _,_=>C.bad 118
  | _,_,_,_=>C.bad 119
 | _,_=>C.bad 117
def A7 (σ:Nat→Option aI) (n:Nat) (t u:TypeId) (s x:D) (K:KN):Prop :=
 match decide (t=u),gB P t with
 | true,some e =>
  match tsz? P e,tby? P e,tz? P e,B5 σ x with
  | some z,some by_,some zv,some xs =>
   match decide (0<z)&&zv.cells.size == z&&zv.cells.all Value.oneCell' with
   | true=>match s with
    | .p st=>match cT st with
     | some (full,[])=>C.oU (eG z xs&&full&&decide (xs.length*by_≤140737488355328)&&decide (xs.length≤140737488355328)) (K (.own n) (aX σ n (some (.arr false z xs))) (n+1))
     | some (full,r::rows)=>aE xs.isEmpty (K (.p st) σ (n+1)) (C.oU (full&&eG z (r::rows)&&eG z xs&&decide (((r::rows).length+xs.length)*by_≤140737488355328)&&decide ((r::rows).length+xs.length≤140737488355328)) (K (.own n) (aX σ n (some (.arr false z (l7 (r::rows) xs)))) (n+1)))
     | none=>C.bad 111
    | .own k₀=>match σ k₀ with
     | some (.arr ro z' rs)=>match ro with
      | false=>C.oU (decide (z'=z)&&eG z xs&&decide ((rs.length+xs.length)*by_≤140737488355328)&&decide (rs.length+xs.length≤140737488355328)) (K (.own n) (aX (aX σ k₀ none) n (some (.arr false z (rs++xs)))) (n+1))
      | true=>C.bad 112
     | _=>C.bad 113
    | _=>C.bad 114
   | false=>C.bad 115
  | _,_,_,_=>C.bad 116
 | false,some e=>tX C P σ n u e s x K
 | _,_=>C.bad 117
def O6 (σ:Nat→Option aI) (n:Nat) (t:TypeId) (len cap:D) (K:KN):Prop :=
 match gB P t with
 | some e =>
  match tsz? P e,tby? P e,tz? P e,len,cap with
  | some z,some by_,some zv,.p (.v (.int _ a)),.p (.v (.int _ b)) =>
   match decide (0<z)&&zv.cells.size == z&&zv.cells.all Value.oneCell' with
   | true=>C.oU ((decide (a=b)||decide (a=0))&&decide (0≤b)&&decide (b*by_≤140737488355328)&&decide (b≤140737488355328)) (K (.own n) (aX σ n (some (.arr false z (List.replicate a.toNat (zv.cells.toList.map .v))))) (n+1))
   | false=>C.bad 121
  | _,_,_,_,_=>C.bad 122
 | none=>C.bad 123
def S8 (σ:Nat→Option aI) (n:Nat) (t:TypeId) (x i v:D) (K:KN):Prop :=
 match P.underlying t with
 | some (.map kt _) =>
  match kX P kt,i,x with
  | some kd,.p (.v k),.map m =>
   match oJ kd k,σ m with
   | true,some (.map ro es)=>match ro with
    | false=>C.opt _ (findD kd k es 0) fun r=>K (.p (.v undef)) (aX σ m (some (.map false (Q6 es r k v)))) (n+1)
    | true=>C.bad 131
   | _,_=>C.bad 132
  | _,_,_=>C.bad 133
 | _=>C.bad 134
def PG (σ:Nat→Option aI) (n:Nat) (isString:Bool) (d:D) (K:KN):Prop :=
 match isString,d with
 | true,.it k=>match σ k with
  | some (.iY s pos)=>aE (decide (pos<s.size)) (K (.p (.v (.tuple #[.bool true,.int .i64 pos,.int .i32 (Utf8.decode s pos).1]))) (aX σ k (some (.iY s (pos+(Utf8.decode s pos).2)))) (n+1)) (K (.p (.v (.tuple #[.bool false]))) σ (n+1))
  | _=>C.bad 141
 | _,_=>C.bad 142
def N7 (fid:FuncId):Option Sy:=match P.funcs[fid]? with
 | some fn=>match fn.resultTypes.toList with
  | [t]=>match gB P t with
   | some e=>FJ P e
   | none=>none
  | _=>none
 | none=>none
def UD (z:Nat) (g:List (List T)→Option (List (List T))) (σ:Nat→Option aI) (n:Nat) (args:List D) (K:KN):Prop :=
 match args with
 | [.own k]=>match σ k with
  | some (.arr ro z' rows)=>match ro,decide (z'=z) with
   | false,true=>C.opt (List (List T)) (g rows) fun rows'=>K (.p (.v (.tuple #[]))) (aX σ k (some (.arr false z rows'))) (n+1)
   | _,_=>C.bad 155
  | _=>C.bad 156
 | _=>C.bad 157
def T4 (z:Nat) (g:List (List T)→List T→Option (List (List T))) (o:Option Sy) (σ:Nat→Option aI) (n:Nat) (args:List D) (K:KN):Prop :=
 match o,args with
 | some r,.own k::rest=>match σ k,fY rest with
  | some (.arr ro z' rows),some ts=>match ro,decide (z'=z)&&decide (r.w=z) with
   | false,true=>C.fresh r (g rows ts) fun l=>K (.own n) (aX (aX σ k none) n (some (.arr false r.w (l.map r.enc)))) (n+1)
   | _,_=>C.bad 165
  | _,_=>C.bad 166
 | _,_=>C.bad 167
def XA (z y:Nat) (σ:Nat→Option aI) (n:Nat) (args:List D) (K:KN):Prop :=
 match args with
 | [.own k]=>match σ k with
  | some (.arr _ z' rows)=>match decide (z'=z) with
   | true=>C.oU (decide (rows.length*y≤140737488355328)&&decide (rows.length≤140737488355328)) (K (.own n) (aX σ n (some (.arr false z rows))) (n+1))
   | false=>C.bad 168
  | _=>C.bad 169
 | [.p t]=>match cT t with
  | some (_,rows)=>C.oU ((rows.all fun r=>decide (r.length=z))&&decide (rows.length*y≤140737488355328)&&decide (rows.length≤140737488355328)) (K (.own n) (aX σ n (some (.arr false z rows))) (n+1))
  | none=>C.bad 170
 | _=>C.bad 171
def Q8 (z y:Nat) (σ:Nat→Option aI) (n:Nat) (args:List D) (K:KN):Prop :=
 match args with
 | [.p (.v (.slice none 0 0)),.p (.v (.int .i64 m))]=>C.oU (decide (0≤m)&&decide (m.toNat*y≤140737488355328)&&decide (m.toNat≤140737488355328)) (K (.own n) (aX σ n (some (.arr false z []))) (n+1))
 | _=>C.bad 172
def O0:Sy→Nat→Option Nat
 | .pr a b,c=>match Nat.blt c a.w with
  | true=>O0 a c
  | false=>O0 b (c-a.w)
 | .li r,0=>some r.w
 | _,_=>none
def UC (c:Nat) (g:List T→Option T) (fid:FuncId) (σ:Nat→Option aI) (n:Nat) (args:List D) (K:KN):Prop :=
 match Q2 P fid,fY args with
 | some [(true,sy)],some ts=>match O0 sy c with
  | some z=>C.call [(true,sy)] (g ts) fun y=>match (sy.enc y)[c]? with
   | some (.sl _ rows)=>C.oU (!rows.isEmpty&&eG z rows) (K (.agg (((sy.enc y).map D.p).set c (.own n))) (aX σ n (some (.arr false z rows))) (n+1))
   | _=>C.bad 175
  | none=>C.bad 176
 | _,_=>C.bad 177
def YX (fid:FuncId):Option Sy:=match P.funcs[fid]? with
 | some fn=>match fn.params.toList with
  | t::_=>match P.underlying t with
   | some (.pointer e)=>FJ P e
   | _=>none
  | []=>none
 | none=>none
theorem MZ (s:Bool×Sy) (ss:Sh) (y:Sh.den (s::ss)):MY (Sh.eQ (s::ss) y)=Sh.enc (s::ss) y:=by
 cases ss with
 | nil=>rfl
 | cons a l=>cases l<;>rfl
def T7 (g:List T→Option T) (fid:FuncId) (σ:Nat→Option aI) (n:Nat) (args:List D) (K:KN):Prop :=
 match args with
 | .ptr k i j::rest=>match decide (i=0)&&decide (j=0),σ k with
  | true,some (.rows ro [ds])=>match ro,fY ds,fY rest with
   | false,some cs,some ts=>match YX P fid,Q2 P fid with
    | some sy,some (s::ss)=>match decide (sy.w=cs.length) with
     | true=>C.call ((true,sy)::s::ss) (g (.agg cs::ts)) fun y=>K (.p (Sh.enc (s::ss) y.2)) (aX σ k (some (.rows false [(sy.enc y.1).map .p]))) (n+1)
     | false=>C.bad 181
    | _,_=>C.bad 182
   | _,_,_=>C.bad 183
  | _,_=>C.bad 184
 | _=>C.bad 185
def G2 (σ:Nat→Option aI) (n:Nat) (f:D) (args:List D) (K:KN):Prop :=
 match eD f with
 | some (fid,a,b)=>match E fid with
  | some (.perm z g)=>UD C z g σ n (a++args++b) K
  | some (.grow z g)=>T4 C z g (N7 P fid) σ n (a++args++b) K
  | some (.dup z y)=>XA C z y σ n (a++args++b) K
  | some (.room z y)=>Q8 C z y σ n (a++args++b) K
  | some (.jX g)=>T7 C P g fid σ n (a++args++b) K
  | some (.part c g)=>UC C P c g fid σ n (a++args++b) K
  | _=>match E fid,N7 P fid,fY (a++args++b) with
   | some (.fresh g),some r,some ts=>C.fresh r (g ts) fun l=>aE l.isEmpty (K (.p (.sl false [])) σ (n+1)) (K (.own n) (aX σ n (some (.arr false r.w (l.map r.enc)))) (n+1))
   | _,_,_=>C.bad 151
 | none=>C.bad 152
def Z2 (σ:Nat→Option aI) (s:Nat→D) (n:Nat) (op:Op) (K:KN):Prop :=
 match op with
 | .store t a v=>IF C P σ n t (ev s a) (ev s v) K
 | .makeSlice t l c=>O6 C P σ n t (ev s l) (ev s c) K
 | .mapUpdate t m i v=>S8 C P σ n t (ev s m) (ev s i) (ev s v) K
 | .insert t m i v=>S8 C P σ n t (ev s m) (ev s i) (ev s v) K
 | .next it isString=>PG C σ n isString (ev s it) K
 | .call c =>
  match c.callee,c.args.toList,c.argTypes.toList with
  | .builtin .append,[x,y],[t,u]=>A7 C P σ n t u (ev s x) (ev s y) K
  | .value f,as,_=>G2 C P E σ n (ev s f) (as.map (ev s)) K
  | _,_,_=>C.bad 161
 | op=>TH C 162 (nv P E σ s n op) K
end
section
variable {P : Program} {E : Env}
theorem zH {c:Nat} {x:Option (D×(Nat→Option aI)×Nat)} {K:KN} (h:TH gN c x K):∃ d σ' n',x=some (d,σ',n')∧K d σ' n':=by
 unfold TH at h
 split at h
 ·exact ⟨_,_,_,rfl,h⟩
 ·exact h.elim
theorem FI {σ:Nat→Option aI} {n:Nat} {t:TypeId} {a v:D} {K:KN} (h:IF gN P σ n t a v K):∃ d σ' n',one n ((eY P σ t a v).map fun σ'=>(D.p (.v undef),σ'))=some (d,σ',n')∧K d σ' n':=by
 unfold IF at h
 split at h
 ·rename_i k i j
  split at h
  ·rename_i ro za rows hσ
   split at h
   ·rename_i z ts hz hts
    split at h
    ·rename_i hc
     simp only[Bool.and_eq_true,decide_eq_true_eq,beq_iff_eq] at hc
     obtain ⟨r,hr,hb,hk⟩:=h
     have hb:j+z≤r.length:=of_decide_eq_true hb
     refine ⟨_,_,_,?_,hk⟩
     simp only[one,eY,hσ,hz,hr,hts]
     rw[if_pos ⟨hc.1.1,hc.1.2,hb,hc.2⟩]
     rfl
    ·exact h.elim
   ·exact h.elim
  ·exact zH h
 ·exact h.elim
theorem xF {σ:Nat→Option aI} {n:Nat} {t u e:TypeId} {s x:D} {K:KN} (he:gB P t=some e) (h:tX gN P σ n u e s x K):∃ d σ' n',one n (kO P σ n t u s x)=some (d,σ',n')∧K d σ' n':=by
 unfold tX at h
 split at h
 ·rename_i b hu
  split at h
  ·rename_i z by_ zv k₀ hz hby hzv
   split at h
   ·rename_i z' rs hc hσ
    simp only[Bool.and_eq_true,decide_eq_true_eq,beq_iff_eq] at hc
    obtain ⟨hb,hk⟩:=h
    simp only[Bool.and_eq_true,decide_eq_true_eq] at hb
    refine ⟨_,_,_,?_,hk⟩
    simp only[one,kO,he,hu,hz,hby,hzv]
    rw[if_pos ⟨hc.1.1,hc.1.2,hc.2⟩]
    simp only[hσ]
    rw[if_pos ⟨hb.1.1,hb.1.2,hb.2⟩]
    rfl
   ·exact h.elim
  ·exact h.elim
 ·exact h.elim
theorem A8 {σ:Nat→Option aI} {n:Nat} {t u:TypeId} {s x:D} {K:KN} (h:A7 gN P σ n t u s x K):∃ d σ' n',one n (dP P σ n t u s x)=some (d,σ',n')∧K d σ' n':=by
 unfold A7 at h
 split at h
 ·rename_i e htu he
  have htu:t=u:=of_decide_eq_true htu
  split at h
  ·rename_i z by_ zv xs hz hby hzv hxs
   split at h
   ·rename_i hc
    simp only[Bool.and_eq_true,decide_eq_true_eq,beq_iff_eq] at hc
    split at h
    ·rename_i st
     split at h
     ·rename_i full hrow
      obtain ⟨hb,hk⟩:=h
      simp only[Bool.and_eq_true,decide_eq_true_eq] at hb
      refine ⟨_,_,_,?_,hk⟩
      simp only[one,dP,if_pos htu,he,hz,hby,hzv,hxs]
      rw[if_pos ⟨hc.1.1,hc.1.2,hc.2,hb.1.1.1⟩]
      simp only[hrow]
      rw[if_pos ⟨hb.1.1.2,hb.1.2,hb.2⟩]
      rfl
     ·rename_i full r rows hrow
      rw[kB] at h
      cases xs with
      | nil =>
       refine ⟨_,_,_,?_,h.1 rfl⟩
       simp only[one,dP,if_pos htu,he,hz,hby,hzv,hxs]
       rw[if_pos ⟨hc.1.1,hc.1.2,hc.2,rfl⟩]
       simp only[hrow]
       rfl
      | cons x0 xs =>
       obtain ⟨hb,hk⟩:=h.2 rfl
       simp only[Bool.and_eq_true,decide_eq_true_eq] at hb
       refine ⟨_,_,_,?_,hk⟩
       simp only[one,dP,if_pos htu,he,hz,hby,hzv,hxs]
       rw[if_pos ⟨hc.1.1,hc.1.2,hc.2,hb.1.1.2⟩]
       simp only[hrow]
       rw[if_pos ⟨hb.1.1.1.1,hb.1.1.1.2,hb.1.2,hb.2⟩]
       rfl
     ·exact h.elim
    ·rename_i k₀
     split at h
     ·rename_i ro z' rs hσ
      split at h
      ·obtain ⟨hb,hk⟩:=h
       simp only[Bool.and_eq_true,decide_eq_true_eq] at hb
       refine ⟨_,_,_,?_,hk⟩
       simp only[one,dP,if_pos htu,he,hz,hby,hzv,hxs]
       rw[if_pos ⟨hc.1.1,hc.1.2,hc.2,hb.1.1.2⟩]
       simp only[hσ]
       rw[if_pos ⟨hb.1.1.1,hb.1.2,hb.2⟩]
       rfl
      ·exact h.elim
     ·exact h.elim
    ·exact h.elim
   ·exact h.elim
  ·exact h.elim
 ·rename_i e htu he
  obtain ⟨d,σ',n',h1,h2⟩:=xF (t:=t) he h
  refine ⟨d,σ',n',?_,h2⟩
  unfold dP
  rw[if_neg (of_decide_eq_false htu)]
  exact h1
 ·exact h.elim
theorem HQ {σ:Nat→Option aI} {n:Nat} {t:TypeId} {a b:D} {K:KN} (h:O6 gN P σ n t a b K):∃ d σ' n',one n (yZ P σ n t a b)=some (d,σ',n')∧K d σ' n':=by
 unfold O6 at h
 split at h
 ·rename_i e he
  split at h
  ·rename_i z by_ zv k1 x k2 y hz hby hzv
   split at h
   ·rename_i hc
    simp only[Bool.and_eq_true,decide_eq_true_eq,beq_iff_eq] at hc
    obtain ⟨hb,hk⟩:=h
    simp only[Bool.and_eq_true,Bool.or_eq_true,decide_eq_true_eq] at hb
    refine ⟨_,_,_,?_,hk⟩
    simp only[one,yZ,he,hz,hby,hzv]
    rw[if_pos ⟨hb.1.1.1,hb.1.1.2,hb.1.2,hb.2,hc.1.1,hc.1.2,hc.2⟩]
    rfl
   ·exact h.elim
  ·exact h.elim
 ·exact h.elim
theorem zD {σ:Nat→Option aI} {n:Nat} {t:TypeId} {x i v:D} {K:KN} (h:S8 gN P σ n t x i v K):∃ d σ' n',one n ((EO P σ t x i v).map fun σ'=>(D.p (.v undef),σ'))=some (d,σ',n')∧K d σ' n':=by
 unfold S8 at h
 split at h
 ·rename_i kt et hu
  split at h
  ·rename_i kd k m hk
   split at h
   ·rename_i ro es hkey hσ
    split at h
    ·obtain ⟨r,hr,hk'⟩:=h
     refine ⟨_,_,_,?_,hk'⟩
     simp only[one,EO,hu,hk,hkey,hσ,hr]
     rfl
    ·exact h.elim
   ·exact h.elim
  ·exact h.elim
 ·exact h.elim
theorem HS {σ:Nat→Option aI} {n:Nat} {b:Bool} {x:D} {K:KN} (h:PG gN σ n b x K):∃ d σ' n',one n (zE σ b x)=some (d,σ',n')∧K d σ' n':=by
 unfold PG at h
 split at h
 ·rename_i k
  split at h
  ·rename_i s pos hσ
   rw[kB] at h
   by_cases hp:pos<s.size
   ·refine ⟨_,_,_,?_,h.1 (by simpa using hp)⟩
    simp only[one,zE,hσ]
    rw[if_pos hp]
    rfl
   ·refine ⟨_,_,_,?_,h.2 (by simpa using hp)⟩
    simp only[one,zE,hσ]
    rw[if_neg hp]
    rfl
  ·exact h.elim
 ·exact h.elim
theorem DZ {σ:Nat→Option aI} {n:Nat} {f:D} {args:List D} {K:KN} (h:G2 gN P E σ n f args K):∃ d σ' n',gY E σ n f args=some (d,σ',n')∧K d σ' n':=by
 unfold G2 at h
 split at h
 ·rename_i fid a b hc
  split at h
  ·rename_i z g hE
   unfold UD at h
   split at h
   ·rename_i k hargs
    split at h
    ·rename_i ro z' rows hσ
     split at h
     ·rename_i hz
      obtain ⟨rows',h1,h2⟩:=h
      refine ⟨_,_,_,?_,h2⟩
      simp only[gY,hc,hE,D2,hargs,hσ,hz,h1,Option.map_some]
     ·exact h.elim
    ·exact h.elim
   ·exact h.elim
  ·rename_i z g hE
   unfold T4 at h
   split at h
   ·rename_i r k rest hr hargs
    split at h
    ·rename_i ro z' rows ts hσ hts
     split at h
     ·rename_i hz
      obtain ⟨l,h1,h2⟩:=h
      rw[Bool.and_eq_true] at hz
      have hw:r.w=z:=of_decide_eq_true hz.2
      rw[hw] at h2
      refine ⟨_,_,_,?_,h2⟩
      simp only[gY,hc,hE,D1,hargs,hσ,hts,hz.1,h1,Option.map_some]
     ·exact h.elim
    ·exact h.elim
   ·exact h.elim
  ·rename_i z g hE
   unfold XA at h
   split at h
   ·rename_i k hargs
    split at h
    ·rename_i ro z' rows hσ
     split at h
     ·rename_i hz
      obtain ⟨h1,h2⟩:=h
      refine ⟨_,_,_,?_,h2⟩
      rw[Bool.and_eq_true] at h1
      simp only[gY,hc,hE,G3,hargs,hσ,hz,h1.1,h1.2,Bool.and_true]
     ·exact h.elim
    ·exact h.elim
   ·rename_i t hargs
    split at h
    ·rename_i full rows hr
     obtain ⟨h1,h2⟩:=h
     refine ⟨_,_,_,?_,h2⟩
     simp only[gY,hc,hE,G3,hargs,hr,h1]
    ·exact h.elim
   ·exact h.elim
  ·rename_i z g hE
   unfold Q8 at h
   split at h
   ·rename_i m hargs
    obtain ⟨h1,h2⟩:=h
    refine ⟨_,_,_,?_,h2⟩
    simp only[gY,hc,hE,D3,hargs,h1]
   ·exact h.elim
  ·rename_i g hE
   unfold T7 at h
   split at h
   ·rename_i k i j rest hargs
    split at h
    ·rename_i ro ds hij hσ
     split at h
     ·rename_i cs ts hcs hts
      split at h
      ·rename_i sy s ss hsy hs
       split at h
       ·rename_i hw
        obtain ⟨y,h1,h2⟩:=h
        refine ⟨_,_,_,?_,h2⟩
        have h1':g (.agg cs::ts)=some (.bB (.agg (sy.enc y.1)::Sh.eQ (s::ss) y.2)):=h1
        have hl:decide ((sy.enc y.1).length=cs.length)=true:=by rw[Sy.cB];exact hw
        simp only[gY,hc,hE,rY,hargs,hij,hσ,hcs,hts,h1',hl,MZ]
       ·exact h.elim
      ·exact h.elim
     ·exact h.elim
    ·exact h.elim
   ·exact h.elim
  ·rename_i c g hE
   unfold UC at h
   split at h
   ·rename_i sy ts hsh hts
    split at h
    ·rename_i z hz
     obtain ⟨y,hg,h⟩:=h
     split at h
     ·rename_i fl rows hcc
      obtain ⟨h1,h2⟩:=h
      refine ⟨_,_,_,?_,h2⟩
      rw[Bool.and_eq_true] at h1
      have hg':g ts=some (.agg (sy.enc y)):=hg
      cases rows with
      | nil=>cases h1.1
      | cons r rows =>
       have hr:r.length=z:=by
        have:=List.all_eq_true.1 h1.2 r List.mem_cons_self
        simpa using this
       subst hr
       simp only[gY,hc,hE,hts,hg',hcc]
     ·exact h.elim
    ·exact h.elim
   ·exact h.elim
  ·split at h
   ·rename_i g r ts hE hr hts
    obtain ⟨l,h1,h2⟩:=h
    rw[kB] at h2
    cases l with
    | nil =>
     refine ⟨_,_,_,?_,h2.1 rfl⟩
     simp only[gY,hc,hE,hts,h1]
     rfl
    | cons x l =>
     refine ⟨_,_,_,?_,h2.2 rfl⟩
     simp only[gY,hc,hE,hts,h1,List.map_cons,Sy.cB]
   ·exact h.elim
 ·exact h.elim
theorem PK {σ:Nat→Option aI} {s:Nat→D} {n:Nat} {op:Op} {K:KN} (h:Z2 gN P E σ s n op K):∃ d σ' n',nv P E σ s n op=some (d,σ',n')∧K d σ' n':=by
 unfold Z2 at h
 split at h
 ·exact FI h
 ·exact HQ h
 ·exact zD h
 ·exact zD h
 ·exact HS h
 ·rename_i c
  split at h
  ·rename_i x y t u hc ha hat
   obtain ⟨d,σ',n',h1,h2⟩:=A8 h
   refine ⟨d,σ',n',?_,h2⟩
   simp only[nv,hc,ha,hat]
   exact h1
  ·rename_i f hc
   obtain ⟨d,σ',n',h1,h2⟩:=DZ h
   refine ⟨d,σ',n',?_,h2⟩
   simp only[nv,hc,DG,h1]
  ·exact h.elim
 ·exact zH h
end
def kM (σ:Nat→Option aI) (n:Nat) (σ':Nat→Option aI) (n':Nat):Prop:=n≤n'∧∀ k x,k<n→σ k=some x→c8 x=false→σ' k=some x
theorem kM.refl (σ:Nat→Option aI) (n:Nat):kM σ n σ n:=⟨Nat.le_refl _,fun _ _ _ h _=>h⟩
theorem kM.trans {σ σ' σ'':Nat→Option aI} {n n' n'':Nat} (h:kM σ n σ' n') (h':kM σ' n' σ'' n''):kM σ n σ'' n'' :=
 ⟨Nat.le_trans h.1 h'.1,fun k x hk hx hw=>h'.2 k x (Nat.lt_of_lt_of_le hk h.1) (h.2 k x hk hx hw) hw⟩
theorem kM.new {σ:Nat→Option aI} {n n':Nat} (x:Option aI) (h:n≤n'):kM σ n (aX σ n x) n':=⟨h,fun k y hk hy _=>by rw[aL _ _ (by omega)];exact hy⟩
theorem kM.same {σ:Nat→Option aI} {n n':Nat} (h:n≤n'):kM σ n σ n':=⟨h,fun _ _ _ h _=>h⟩
theorem kM.set {σ:Nat→Option aI} {n n' m:Nat} {x₀:aI} (x:Option aI) (h:n≤n') (hm:σ m=some x₀) (hw:c8 x₀=true):kM σ n (aX σ m x) n':=⟨h,fun k y hk hy hy'=>by
 by_cases e:k=m
 ·subst e;rw[hm] at hy;cases hy;rw[hw] at hy';cases hy'
 ·rw[aL _ _ e];exact hy⟩
def dR (E:Env):Prop:=∀ f g,E f≠some (.heap g)
section
variable {P : Program} {E : Env}
theorem cS {n:Nat} {x:Option (D×(Nat→Option aI))} {d:D} {σ':Nat→Option aI} {n':Nat} (h:one n x=some (d,σ',n')):x=some (d,σ')∧n'=n+1:=by
 unfold one at h
 cases x with
 | none=>cases h
 | some y=>obtain ⟨a,b⟩:=y;simp only[Option.map_some,Option.some.injEq,Prod.mk.injEq] at h;obtain ⟨rfl,rfl,rfl⟩:=h;exact ⟨rfl,rfl⟩
theorem N1 (hh:dR E) {σ:Nat→Option aI} {n:Nat} {c:D} {args:List D} {d:D} {σ':Nat→Option aI} {n':Nat} (h:gY E σ n c args=some (d,σ',n')):kM σ n σ' n':=by
 unfold gY at h
 split at h
 ·split at h
  ·split at h
   ·split at h
    ·split at h
     ·cases h;exact .same (by omega)
     ·cases h;exact .new _ (by omega)
    ·cases h
   ·split at h
    ·split at h
     ·split at h
      ·cases h;exact .new _ (by omega)
      ·cases h
     ·cases h
    ·cases h
  ·split at h
   ·split at h
    ·cases h;exact .same (by omega)
    ·split at h
     ·cases h;exact .new _ (by omega)
     ·cases h
    ·cases h
   ·cases h
  ·rename_i hg;exact absurd hg (hh _ _)
  ·unfold D2 at h
   split at h
   ·split at h
    ·rename_i hσ
     split at h
     ·simp only[Option.map_eq_some_iff,Prod.mk.injEq] at h
      obtain ⟨_,_,_,rfl,rfl⟩:=h
      exact .set _ (by omega) hσ rfl
     ·cases h
    ·cases h
   ·cases h
  ·unfold D1 at h
   split at h
   ·split at h
    ·rename_i hσ
     split at h
     ·simp only[Option.map_eq_some_iff,Prod.mk.injEq] at h
      obtain ⟨_,_,_,rfl,rfl⟩:=h
      exact (kM.set (n':=n) none (Nat.le_refl _) hσ rfl).trans (.new _ (by omega))
     ·cases h
    ·cases h
   ·cases h
  ·unfold G3 at h
   split at h
   ·split at h
    ·split at h
     ·simp only[Option.some.injEq,Prod.mk.injEq] at h
      obtain ⟨_,rfl,rfl⟩:=h
      exact .new _ (by omega)
     ·cases h
    ·cases h
   ·split at h
    ·split at h
     ·simp only[Option.some.injEq,Prod.mk.injEq] at h
      obtain ⟨_,rfl,rfl⟩:=h
      exact .new _ (by omega)
     ·cases h
    ·cases h
   ·cases h
  ·unfold D3 at h
   split at h
   ·split at h
    ·simp only[Option.some.injEq,Prod.mk.injEq] at h
     obtain ⟨_,rfl,rfl⟩:=h
     exact .new _ (by omega)
    ·cases h
   ·cases h
  ·unfold rY at h
   split at h
   ·split at h
    ·rename_i hσ
     split at h
     ·split at h
      ·split at h
       ·simp only[Option.some.injEq,Prod.mk.injEq] at h
        obtain ⟨_,rfl,rfl⟩:=h
        exact .set _ (by omega) hσ rfl
       ·cases h
      ·cases h
     ·cases h
    ·cases h
   ·cases h
  ·split at h
   ·split at h
    ·split at h
     ·simp only[Option.some.injEq,Prod.mk.injEq] at h
      obtain ⟨_,rfl,rfl⟩:=h
      exact .new _ (by omega)
     ·cases h
    ·cases h
   ·cases h
  ·cases h
 ·cases h
theorem vB:∀ {ps ps':List (Nat×D)} {σ σ1:Nat→Option aI} {n n':Nat},n≤n'→nV σ ps=some (ps',σ1)→kM σ n σ1 n'
 | [],ps',σ,σ1,n,n',hn,h=>by
  simp only[nV] at h
  cases h
  exact .same hn
 | p::ps,ps',σ,σ1,n,n',hn,h=>by
  obtain ⟨pi,pd⟩:=p
  unfold nV at h
  split at h
  ·rename_i e;cases e
  ·rename_i i k r e
   cases e
   split at h
   ·rename_i z rows hk
    simp only[Option.map_eq_some_iff,Prod.mk.injEq] at h
    obtain ⟨⟨_,_⟩,hg,_,rfl⟩:=h
    exact (kM.set (n':=n) none (Nat.le_refl _) hk rfl).trans (vB hn hg)
   ·cases h
  ·rename_i i d r _ e
   cases e
   simp only[Option.map_eq_some_iff,Prod.mk.injEq] at h
   obtain ⟨⟨_,_⟩,hg,_,rfl⟩:=h
   exact vB hn hg
theorem YG (hh:dR E) {σ:Nat→Option aI} {s:Nat→D} {n:Nat} {op:Op} {d:D} {σ':Nat→Option aI} {n':Nat} (h:nv P E σ s n op=some (d,σ',n')):kM σ n σ' n':=by
 unfold nv at h
 split at h
 ·obtain ⟨h1,rfl⟩:=cS h
  cases hz:tz? P _ with
  | none=>rw[hz] at h1;cases h1
  | some z =>
   rw[hz] at h1
   simp only[Option.bind_some,Option.map_eq_some_iff,Prod.mk.injEq] at h1
   obtain ⟨b,_,rfl,rfl⟩:=h1
   exact .new _ (by omega)
 ·obtain ⟨h1,rfl⟩:=cS h
  simp only[Option.map_eq_some_iff,Prod.mk.injEq] at h1
  obtain ⟨b,_,rfl,rfl⟩:=h1
  exact .new _ (by omega)
 ·obtain ⟨h1,rfl⟩:=cS h
  simp only[Option.map_eq_some_iff,Prod.mk.injEq] at h1
  obtain ⟨σ₂,h2,rfl,rfl⟩:=h1
  unfold eY at h2
  split at h2
  ·split at h2
   ·rename_i hσ hz
    split at h2
    ·split at h2
     ·cases h2;exact .set _ (by omega) hσ rfl
     ·cases h2
    ·cases h2
   ·rename_i hσ hz
    split at h2
    ·split at h2
     ·cases h2;exact .set _ (by omega) hσ rfl
     ·cases h2
    ·cases h2
   ·cases h2
  ·cases h2
 ·split at h
  ·rename_i r hr
   obtain ⟨h1,rfl⟩:=cS h
   cases h1
   unfold JM at hr
   split at hr
   ·split at hr
    ·cases hr;exact .new _ (by omega)
    ·cases hr
   ·cases hr;exact .new _ (by omega)
   ·cases hr;exact .new _ (by omega)
   ·cases hr
  ·obtain ⟨h1,rfl⟩:=cS h
   unfold H8 at h1
   split at h1
   ·cases h1;exact .new _ (by omega)
   ·cases h1
 ·split at h
  ·obtain ⟨h1,rfl⟩:=cS h
   cases h1;exact .new _ (by omega)
  ·split at h
   ·obtain ⟨h1,rfl⟩:=cS h
    cases h1;exact .new _ (by omega)
   ·cases h
 ·obtain ⟨h1,rfl⟩:=cS h
  unfold yZ at h1
  split at h1
  ·split at h1
   ·split at h1
    ·cases h1;exact .new _ (by omega)
    ·cases h1
   ·cases h1
  ·cases h1
 ·split at h
  ·rename_i hgv
   split at h
   ·obtain ⟨h1,rfl⟩:=cS h
    cases h1;exact (vB (Nat.le_refl _) hgv).trans (.new _ (by omega))
   ·cases h
  ·cases h
 ·obtain ⟨h1,rfl⟩:=cS h
  simp only[Option.map_eq_some_iff,Prod.mk.injEq] at h1
  obtain ⟨σ₂,h2,rfl,rfl⟩:=h1
  unfold EO at h2
  split at h2
  ·split at h2
   ·split at h2
    ·rename_i hσ
     split at h2
     ·cases h2;exact .set _ (by omega) hσ rfl
     ·cases h2
    ·cases h2
   ·cases h2
  ·cases h2
 ·obtain ⟨h1,rfl⟩:=cS h
  simp only[Option.map_eq_some_iff,Prod.mk.injEq] at h1
  obtain ⟨σ₂,h2,rfl,rfl⟩:=h1
  unfold EO at h2
  split at h2
  ·split at h2
   ·split at h2
    ·rename_i hσ
     split at h2
     ·cases h2;exact .set _ (by omega) hσ rfl
     ·cases h2
    ·cases h2
   ·cases h2
  ·cases h2
 ·obtain ⟨h1,rfl⟩:=cS h
  unfold JI at h1
  split at h1
  ·split at h1
   ·split at h1
    ·rename_i hσ
     split at h1
     ·cases h1;exact .set _ (by omega) hσ rfl
     ·cases h1;exact .set _ (by omega) hσ rfl
     ·cases h1
    ·cases h1
   ·cases h1
  ·cases h1
 ·obtain ⟨h1,rfl⟩:=cS h
  simp only[Option.map_eq_some_iff,Prod.mk.injEq] at h1
  obtain ⟨σ₂,h2,rfl,rfl⟩:=h1
  unfold JN at h2
  split at h2
  ·split at h2
   ·rename_i hσ
    split at h2
    ·cases h2;exact .set _ (by omega) hσ rfl
    ·cases h2
   ·cases h2
  ·cases h2
 ·obtain ⟨h1,rfl⟩:=cS h
  simp only[Option.map_eq_some_iff,Prod.mk.injEq] at h1
  obtain ⟨_,_,_,rfl⟩:=h1
  exact .same (by omega)
 ·obtain ⟨h1,rfl⟩:=cS h
  unfold zE at h1
  split at h1
  ·split at h1
   ·rename_i hσ
    split at h1
    ·cases h1;exact .set _ (by omega) hσ rfl
    ·cases h1;exact .same (by omega)
   ·cases h1
  ·cases h1
 ·split at h
  ·obtain ⟨h1,rfl⟩:=cS h
   unfold dP at h1
   split at h1
   ·split at h1
    ·split at h1
     ·split at h1
      ·split at h1
       ·split at h1
        ·split at h1
         ·cases h1;exact .new _ (by omega)
         ·cases h1
        ·split at h1
         ·cases h1;exact .same (by omega)
         ·split at h1
          ·cases h1;exact .new _ (by omega)
          ·cases h1
        ·cases h1
       ·split at h1
        ·rename_i hσ
         split at h1
         ·cases h1
          exact (kM.set (n':=n) none (Nat.le_refl _) hσ rfl).trans (.new _ (by omega))
         ·cases h1
        ·cases h1
       ·cases h1
      ·cases h1
     ·cases h1
    ·cases h1
   ·unfold kO at h1
    split at h1
    ·split at h1
     ·split at h1
      ·split at h1
       ·split at h1
        ·rename_i hσ
         split at h1
         ·cases h1
          exact (kM.set (n':=n) none (Nat.le_refl _) hσ rfl).trans (.new _ (by omega))
         ·cases h1
        ·cases h1
       ·split at h1
        ·split at h1
         ·cases h1;exact .same (by omega)
         ·split at h1
          ·cases h1;exact .same (by omega)
          ·cases h1
        ·cases h1
       ·cases h1
      ·cases h1
     ·cases h1
    ·cases h1
  ·unfold DG at h
   split at h
   ·rename_i r hcf
    cases h
    exact N1 hh hcf
   ·simp only[Option.map_eq_some_iff,Prod.mk.injEq] at h
    obtain ⟨_,_,_,rfl,rfl⟩:=h
    exact .same (Nat.le_refl _)
  ·cases h
 ·cases h
end
section
variable (C : Combs) (P : Program) (E : Env) (nt : Nat)
def splitK (ops:Array Oper) (o:Oper) (st:St) (K:St→Prop):Prop:=match o.guard with
 | none=>K st
 | some (j,_)=>match (ops[j]?).bind (·.dst) with
  | none=>K st
  | some t=>match st.s t with
   | .p (.v (.bool b))=>aE b (K ⟨aX st.s t (.p (.v (.bool true))),st.σ,st.n⟩) (K ⟨aX st.s t (.p (.v (.bool false))),st.σ,st.n⟩)
   | _=>K st
def rG (st:St) (dst:Option Tmp) (d:D) (σ':Nat→Option aI) (n':Nat) (K:St→Prop):Prop:=match jD nt st dst d σ' n' with
 | some st'=>K st'
 | none=>C.bad 201
def nZ (ops:Array Oper) (o:Oper) (st:St) (K:St→Prop):Prop :=
 match cR ops st.s o with
 | some true=>match bS E o.op with
  | true=>Z4 C P E st.n st.σ st.s (aV true st.s) o.op fun d=>rG C nt st o.dst d st.σ st.n K
  | false=>Z2 C P E st.σ (aV true st.s) st.n o.op fun d σ' n'=>rG C nt st o.dst d σ' n' K
 | some false=>rG C nt st o.dst (.p (.v undef)) st.σ st.n K
 | none=>C.bad 202
end
def ZO (A:Nat→Bool) (st st':St):Prop:=∀ i,A i=false→st'.s i=st.s i
structure Fr (A:Nat→Bool) (st st':St):Prop where
 s:ZO A st st'
 b:kM st.σ st.n st'.σ st'.n
theorem Fr.refl (A:Nat→Bool) (st:St):Fr A st st:=⟨fun _ _=>rfl,kM.refl _ _⟩
theorem Fr.trans {A:Nat→Bool} {st st' st'':St} (h:Fr A st st') (h':Fr A st' st''):Fr A st st'':=⟨fun i hi=>(h'.s i hi).trans (h.s i hi),h.b.trans h'.b⟩
theorem Fr.mono {A B:Nat→Bool} {st st':St} (h:Fr A st st') (hab:∀ i,B i=false→A i=false):Fr B st st':=⟨fun i hi=>h.s i (hab i hi),h.b⟩
section
variable {P : Program} {E : Env} {nt : Nat} {ops : Array Oper}
theorem jT {o:Oper} {st:St} {K:St→Prop} (h:splitK ops o st K):K st:=by
 unfold splitK at h
 split at h
 ·exact h
 ·split at h
  ·exact h
  ·rename_i t ht
   split at h
   ·rename_i b hb
    have key:∀ c,b=c→(⟨aX st.s t (.p (.v (.bool c))),st.σ,st.n⟩:St)=st:=by
     intro c hc
     subst hc
     have:aX st.s t (.p (.v (.bool b)))=st.s:=by
      funext i
      by_cases e:i=t
      ·subst e;rw[qG,hb]
      ·rw[aL _ _ e]
     rw[this]
    cases b with
    | true=>rw[←key true rfl];exact h
    | false=>rw[←key false rfl];exact h
   ·exact h
theorem dK {st:St} {dst:Option Tmp} {d:D} {σ':Nat→Option aI} {n':Nat} {K:St→Prop} (h:rG gN nt st dst d σ' n' K):∃ st',jD nt st dst d σ' n'=some st'∧K st':=by
 unfold rG at h
 split at h
 ·exact ⟨_,‹_›,h⟩
 ·exact h.elim
theorem dV {o:Oper} {st:St} {K:St→Prop} (h:nZ gN P E nt ops o st K):∃ st',cI P E nt ops o st=some st'∧K st':=by
 unfold nZ at h
 unfold cI
 split at h
 ·rename_i hg
  split at h
  ·rename_i hq
   obtain ⟨d,h1,h2⟩:=QB h
   obtain ⟨st',h3,h4⟩:=dK h2
   exact ⟨st',by simp only[hq,if_true,dA,hg,h1,h3],h4⟩
  ·rename_i hq
   obtain ⟨d,σ',n',h1,h2⟩:=PK h
   obtain ⟨st',h3,h4⟩:=dK h2
   exact ⟨st',by simp only[hq,Bool.false_eq_true,if_false,hg,h1,h3],h4⟩
 ·rename_i hg
  obtain ⟨st',h3,h4⟩:=dK h
  refine ⟨st',?_,h4⟩
  by_cases hq:bS E o.op=true
  ·simp only[hq,if_true,dA,hg,h3]
  ·simp only[hq,Bool.false_eq_true,if_false,hg,h3]
 ·exact h.elim
theorem gP {st st':St} {dst:Option Tmp} {d:D} {σ':Nat→Option aI} {n':Nat} {A:Nat→Bool} (h:jD nt st dst d σ' n'=some st') (hA:∀ t,dst=some t→A t=true) (hf:kM st.σ st.n σ' n'):Fr A st st':=by
 obtain ⟨_,rfl⟩:=jQ h
 refine ⟨fun i hi=>?_,hf⟩
 unfold jE
 cases dst with
 | none=>rfl
 | some t=>exact aL _ _ fun e=>by subst e;rw[hA _ rfl] at hi;cases hi
theorem fA (hh:dR E) {o:Oper} {st st':St} {A:Nat→Bool} (h:cI P E nt ops o st=some st') (hA:∀ t,o.dst=some t→A t=true):Fr A st st':=by
 unfold cI at h
 split at h
 ·split at h
  ·exact gP h hA (kM.refl _ _)
  ·cases h
 ·split at h
  ·split at h
   ·rename_i d σ' n' hn
    exact gP h hA (YG hh hn)
   ·cases h
  ·exact gP h hA (kM.refl _ _)
  ·cases h
end
end Go.Pv
