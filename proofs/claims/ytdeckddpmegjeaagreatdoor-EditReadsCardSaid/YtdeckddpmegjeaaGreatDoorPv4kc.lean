/-
  The symbolic executor, part c: operations that write or make memory; a whole region.
-/
import Derived.Test.YtdeckddpmegjeaaGreatDoorPv4kb
set_option linter.defProp false
set_option linter.unusedSimpArgs false
namespace Go.Pv
open Go Go.RowKit
abbrev KN:=D→(Nat→Option aK)→Nat→Prop
section
variable (C : Combs) (P : Program) (E : Env)
def QD (c:Nat) (x:Option (D×(Nat→Option aK)×Nat)) (K:KN):Prop:=match x with
 | some (d,σ',n')=>K d σ' n'
 | none=>C.bad c
def GD (σ:Nat→Option aK) (n:Nat) (t:TypeId) (a v:D) (K:KN):Prop :=
 match a with
 | .ptr k i j=>match σ k with
  | some (.arr ro za rows)=>match ro,tsz? P t,fP v.cells with
   | false,some z,some ts=>match decide (0<z)&&ts.length == z&&ts.all T.leaf with
    | true=>C.row rows i fun r=>C.nR (decide (j+z≤r.length)) (K (.p (.v undef)) (aZ σ k (some (.arr false za (rows.set i (bR r j ts))))) (n+1))
    | false=>C.bad 101
   | _,_,_=>C.bad 102
  | _=>QD C 103 (one n ((eP P σ t a v).map fun σ'=>(.p (.v undef),σ'))) K
 | _=>C.bad 104
def V0 (a b:List (List T)):List (List T):=a++b
def s6 (σ:Nat→Option aK) (n:Nat) (u e:TypeId) (s x:D) (K:KN):Prop :=
 match P.underlying u,x with
 | some .string,.p (.v (.string b))=>match tsz? P e,tby? P e,tz? P e,s with
  | some z,some by_,some zv,.own k₀=>match decide (z=1)&&zv.cells.size == 1&&zv.cells.all Value.oneCell',σ k₀ with
   | true,some (.arr false z' rs)=>C.nR (decide (z'=1)&&decide ((rs.length+b.size)*by_≤140737488355328)&&decide (rs.length+b.size≤140737488355328)) (K (.own n) (aZ (aZ σ k₀ none) n (some (.arr false 1 (rs++bI b)))) (n+1))
   | _,_=>C.bad 118
  | _,_,_,_=>C.bad 119
 | _,_=>C.bad 117
def yT (σ:Nat→Option aK) (n:Nat) (t u:TypeId) (s x:D) (K:KN):Prop :=
 match decide (t=u),fS P t with
 | true,some e =>
  match tsz? P e,tby? P e,tz? P e,AB σ x with
  | some z,some by_,some zv,some xs =>
   match decide (0<z)&&zv.cells.size == z&&zv.cells.all Value.oneCell' with
   | true=>match s with
    | .p st=>match cT st with
     | some (full,[])=>C.nR (fV z xs&&full&&decide (xs.length*by_≤140737488355328)&&decide (xs.length≤140737488355328)) (K (.own n) (aZ σ n (some (.arr false z xs))) (n+1))
     | some (full,r::rows)=>aI xs.isEmpty (K (.p st) σ (n+1)) (C.nR (full&&fV z (r::rows)&&fV z xs&&decide (((r::rows).length+xs.length)*by_≤140737488355328)&&decide ((r::rows).length+xs.length≤140737488355328)) (K (.own n) (aZ σ n (some (.arr false z (V0 (r::rows) xs)))) (n+1)))
     | none=>C.bad 111
    | .own k₀=>match σ k₀ with
     | some (.arr ro z' rs)=>match ro with
      | false=>C.nR (decide (z'=z)&&fV z xs&&decide ((rs.length+xs.length)*by_≤140737488355328)&&decide (rs.length+xs.length≤140737488355328)) (K (.own n) (aZ (aZ σ k₀ none) n (some (.arr false z (rs++xs)))) (n+1))
      | true=>C.bad 112
     | _=>C.bad 113
    | _=>C.bad 114
   | false=>C.bad 115
  | _,_,_,_=>C.bad 116
 | false,some e=>s6 C P σ n u e s x K
 | _,_=>C.bad 117
def MZ (σ:Nat→Option aK) (n:Nat) (t:TypeId) (len cap:D) (K:KN):Prop :=
 match fS P t with
 | some e =>
  match tsz? P e,tby? P e,tz? P e,len,cap with
  | some z,some by_,some zv,.p (.v (.int _ a)),.p (.v (.int _ b)) =>
   match decide (0<z)&&zv.cells.size == z&&zv.cells.all Value.oneCell' with
   | true=>C.nR ((decide (a=b)||decide (a=0))&&decide (0≤b)&&decide (b*by_≤140737488355328)&&decide (b≤140737488355328)) (K (.own n) (aZ σ n (some (.arr false z (List.replicate a.toNat (zv.cells.toList.map .v))))) (n+1))
   | false=>C.bad 121
  | _,_,_,_,_=>C.bad 122
 | none=>C.bad 123
def P6 (σ:Nat→Option aK) (n:Nat) (t:TypeId) (x i v:D) (K:KN):Prop :=
 match P.underlying t with
 | some (.map kt _) =>
  match kF P kt,i,x with
  | some kd,.p (.v k),.map m =>
   match nI kd k,σ m with
   | true,some (.map ro es)=>match ro with
    | false=>C.opt _ (findD kd k es 0) fun r=>K (.p (.v undef)) (aZ σ m (some (.map false (OL es r k v)))) (n+1)
    | true=>C.bad 131
   | _,_=>C.bad 132
  | _,_,_=>C.bad 133
 | _=>C.bad 134
def NA (σ:Nat→Option aK) (n:Nat) (isString:Bool) (d:D) (K:KN):Prop :=
 match isString,d with
 | true,.it k=>match σ k with
  | some (.iK s pos)=>aI (decide (pos<s.size)) (K (.p (.v (.tuple #[.bool true,.int .i64 pos,.int .i32 (Utf8.decode s pos).1]))) (aZ σ k (some (.iK s (pos+(Utf8.decode s pos).2)))) (n+1)) (K (.p (.v (.tuple #[.bool false]))) σ (n+1))
  | _=>C.bad 141
 | _,_=>C.bad 142
def L1 (fid:FuncId):Option Sy:=match P.funcs[fid]? with
 | some fn=>match fn.resultTypes.toList with
  | [t]=>match fS P t with
   | some e=>DI P e
   | none=>none
  | _=>none
 | none=>none
def Q8 (z:Nat) (g:List (List T)→Option (List (List T))) (σ:Nat→Option aK) (n:Nat) (args:List D) (K:KN):Prop :=
 match args with
 | [.own k]=>match σ k with
  | some (.arr ro z' rows)=>match ro,decide (z'=z) with
   | false,true=>C.opt (List (List T)) (g rows) fun rows'=>K (.p (.v (.tuple #[]))) (aZ σ k (some (.arr false z rows'))) (n+1)
   | _,_=>C.bad 155
  | _=>C.bad 156
 | _=>C.bad 157
def Q0 (z:Nat) (g:List (List T)→List T→Option (List (List T))) (o:Option Sy) (σ:Nat→Option aK) (n:Nat) (args:List D) (K:KN):Prop :=
 match o,args with
 | some r,.own k::rest=>match σ k,fP rest with
  | some (.arr ro z' rows),some ts=>match ro,decide (z'=z)&&decide (r.w=z) with
   | false,true=>C.fresh r (g rows ts) fun l=>K (.own n) (aZ (aZ σ k none) n (some (.arr false r.w (l.map r.enc)))) (n+1)
   | _,_=>C.bad 165
  | _,_=>C.bad 166
 | _,_=>C.bad 167
def TZ (z y:Nat) (σ:Nat→Option aK) (n:Nat) (args:List D) (K:KN):Prop :=
 match args with
 | [.own k]=>match σ k with
  | some (.arr _ z' rows)=>match decide (z'=z) with
   | true=>C.nR (decide (rows.length*y≤140737488355328)&&decide (rows.length≤140737488355328)) (K (.own n) (aZ σ n (some (.arr false z rows))) (n+1))
   | false=>C.bad 168
  | _=>C.bad 169
 | [.p t]=>match cT t with
  | some (_,rows)=>C.nR ((rows.all fun r=>decide (r.length=z))&&decide (rows.length*y≤140737488355328)&&decide (rows.length≤140737488355328)) (K (.own n) (aZ σ n (some (.arr false z rows))) (n+1))
  | none=>C.bad 170
 | _=>C.bad 171
def ON (z y:Nat) (σ:Nat→Option aK) (n:Nat) (args:List D) (K:KN):Prop :=
 match args with
 | [.p (.v (.slice none 0 0)),.p (.v (.int .i64 m))]=>C.nR (decide (0≤m)&&decide (m.toNat*y≤140737488355328)&&decide (m.toNat≤140737488355328)) (K (.own n) (aZ σ n (some (.arr false z []))) (n+1))
 | _=>C.bad 172
def MT:Sy→Nat→Option Nat
 | .pr a b,c=>match Nat.blt c a.w with
  | true=>MT a c
  | false=>MT b (c-a.w)
 | .li r,0=>some r.w
 | _,_=>none
def Q7 (c:Nat) (g:List T→Option T) (fid:FuncId) (σ:Nat→Option aK) (n:Nat) (args:List D) (K:KN):Prop :=
 match OH P fid,fP args with
 | some [(true,sy)],some ts=>match MT sy c with
  | some z=>C.call [(true,sy)] (g ts) fun y=>match (sy.enc y)[c]? with
   | some (.sl _ rows)=>C.nR (!rows.isEmpty&&fV z rows) (K (.agg (((sy.enc y).map D.p).set c (.own n))) (aZ σ n (some (.arr false z rows))) (n+1))
   | _=>C.bad 175
  | none=>C.bad 176
 | _,_=>C.bad 177
def U3 (fid:FuncId):Option Sy:=match P.funcs[fid]? with
 | some fn=>match fn.params.toList with
  | t::_=>match P.underlying t with
   | some (.pointer e)=>DI P e
   | _=>none
  | []=>none
 | none=>none
theorem KU (s:Bool×Sy) (ss:Sh) (y:Sh.den (s::ss)):KT (Sh.dI (s::ss) y)=Sh.enc (s::ss) y:=by
 cases ss with
 | nil=>rfl
 | cons a l=>cases l<;>rfl
def Q3 (g:List T→Option T) (fid:FuncId) (σ:Nat→Option aK) (n:Nat) (args:List D) (K:KN):Prop :=
 match args with
 | .ptr k i j::rest=>match decide (i=0)&&decide (j=0),σ k with
  | true,some (.rows ro [ds])=>match ro,fP ds,fP rest with
   | false,some cs,some ts=>match U3 P fid,OH P fid with
    | some sy,some (s::ss)=>match decide (sy.w=cs.length) with
     | true=>C.call ((true,sy)::s::ss) (g (.agg cs::ts)) fun y=>K (.p (Sh.enc (s::ss) y.2)) (aZ σ k (some (.rows false [(sy.enc y.1).map .p]))) (n+1)
     | false=>C.bad 181
    | _,_=>C.bad 182
   | _,_,_=>C.bad 183
  | _,_=>C.bad 184
 | _=>C.bad 185
def E6 (σ:Nat→Option aK) (n:Nat) (f:D) (args:List D) (K:KN):Prop :=
 match eD f with
 | some (fid,a,b)=>match E fid with
  | some (.perm z g)=>Q8 C z g σ n (a++args++b) K
  | some (.grow z g)=>Q0 C z g (L1 P fid) σ n (a++args++b) K
  | some (.dup z y)=>TZ C z y σ n (a++args++b) K
  | some (.room z y)=>ON C z y σ n (a++args++b) K
  | some (.dR g)=>Q3 C P g fid σ n (a++args++b) K
  | some (.part c g)=>Q7 C P c g fid σ n (a++args++b) K
  | _=>match E fid,L1 P fid,fP (a++args++b) with
   | some (.fresh g),some r,some ts=>C.fresh r (g ts) fun l=>aI l.isEmpty (K (.p (.sl false [])) σ (n+1)) (K (.own n) (aZ σ n (some (.arr false r.w (l.map r.enc)))) (n+1))
   | _,_,_=>C.bad 151
 | none=>C.bad 152
def WC (σ:Nat→Option aK) (s:Nat→D) (n:Nat) (op:Op) (K:KN):Prop :=
 match op with
 | .store t a v=>GD C P σ n t (ev s a) (ev s v) K
 | .makeSlice t l c=>MZ C P σ n t (ev s l) (ev s c) K
 | .mapUpdate t m i v=>P6 C P σ n t (ev s m) (ev s i) (ev s v) K
 | .insert t m i v=>P6 C P σ n t (ev s m) (ev s i) (ev s v) K
 | .next it isString=>NA C σ n isString (ev s it) K
 | .call c =>
  match c.callee,c.args.toList,c.argTypes.toList with
  | .builtin .append,[x,y],[t,u]=>yT C P σ n t u (ev s x) (ev s y) K
  | .value f,as,_=>E6 C P E σ n (ev s f) (as.map (ev s)) K
  | _,_,_=>C.bad 161
 | op=>QD C 162 (nv P E σ s n op) K
end
section
variable {P : Program} {E : Env}
theorem xD {c:Nat} {x:Option (D×(Nat→Option aK)×Nat)} {K:KN} (h:QD gE c x K):∃ d σ' n',x=some (d,σ',n')∧K d σ' n':=by
 unfold QD at h
 split at h
 ·exact ⟨_,_,_,rfl,h⟩
 ·exact h.elim
theorem DH {σ:Nat→Option aK} {n:Nat} {t:TypeId} {a v:D} {K:KN} (h:GD gE P σ n t a v K):∃ d σ' n',one n ((eP P σ t a v).map fun σ'=>(D.p (.v undef),σ'))=some (d,σ',n')∧K d σ' n':=by
 unfold GD at h
 split at h
 ·rename_i k i j
  split at h
  ·rename_i ro za rows hσ
   split at h
   ·rename_i z ts hz hts
    split at h
    ·rename_i hc
     simp only[Bool.and_eq_true,decide_eq_true_eq,beq_iff_eq] at hc
     obtain ⟨r,hr,hb,hk⟩:=h
     have hb:j+z≤r.length:=of_decide_eq_true hb
     refine ⟨_,_,_,?_,hk⟩
     simp only[one,eP,hσ,hz,hr,hts]
     rw[if_pos ⟨hc.1.1,hc.1.2,hb,hc.2⟩]
     rfl
    ·exact h.elim
   ·exact h.elim
  ·exact xD h
 ·exact h.elim
theorem vR {σ:Nat→Option aK} {n:Nat} {t u e:TypeId} {s x:D} {K:KN} (he:fS P t=some e) (h:s6 gE P σ n u e s x K):∃ d σ' n',one n (j6 P σ n t u s x)=some (d,σ',n')∧K d σ' n':=by
 unfold s6 at h
 split at h
 ·rename_i b hu
  split at h
  ·rename_i z by_ zv k₀ hz hby hzv
   split at h
   ·rename_i z' rs hc hσ
    simp only[Bool.and_eq_true,decide_eq_true_eq,beq_iff_eq] at hc
    obtain ⟨hb,hk⟩:=h
    simp only[Bool.and_eq_true,decide_eq_true_eq] at hb
    refine ⟨_,_,_,?_,hk⟩
    simp only[one,j6,he,hu,hz,hby,hzv]
    rw[if_pos ⟨hc.1.1,hc.1.2,hc.2⟩]
    simp only[hσ]
    rw[if_pos ⟨hb.1.1,hb.1.2,hb.2⟩]
    rfl
   ·exact h.elim
  ·exact h.elim
 ·exact h.elim
theorem yU {σ:Nat→Option aK} {n:Nat} {t u:TypeId} {s x:D} {K:KN} (h:yT gE P σ n t u s x K):∃ d σ' n',one n (dP P σ n t u s x)=some (d,σ',n')∧K d σ' n':=by
 unfold yT at h
 split at h
 ·rename_i e htu he
  have htu:t=u:=of_decide_eq_true htu
  split at h
  ·rename_i z by_ zv xs hz hby hzv hxs
   split at h
   ·rename_i hc
    simp only[Bool.and_eq_true,decide_eq_true_eq,beq_iff_eq] at hc
    split at h
    ·rename_i st
     split at h
     ·rename_i full hrow
      obtain ⟨hb,hk⟩:=h
      simp only[Bool.and_eq_true,decide_eq_true_eq] at hb
      refine ⟨_,_,_,?_,hk⟩
      simp only[one,dP,if_pos htu,he,hz,hby,hzv,hxs]
      rw[if_pos ⟨hc.1.1,hc.1.2,hc.2,hb.1.1.1⟩]
      simp only[hrow]
      rw[if_pos ⟨hb.1.1.2,hb.1.2,hb.2⟩]
      rfl
     ·rename_i full r rows hrow
      rw[jX] at h
      cases xs with
      | nil =>
       refine ⟨_,_,_,?_,h.1 rfl⟩
       simp only[one,dP,if_pos htu,he,hz,hby,hzv,hxs]
       rw[if_pos ⟨hc.1.1,hc.1.2,hc.2,rfl⟩]
       simp only[hrow]
       rfl
      | cons x0 xs =>
       obtain ⟨hb,hk⟩:=h.2 rfl
       simp only[Bool.and_eq_true,decide_eq_true_eq] at hb
       refine ⟨_,_,_,?_,hk⟩
       simp only[one,dP,if_pos htu,he,hz,hby,hzv,hxs]
       rw[if_pos ⟨hc.1.1,hc.1.2,hc.2,hb.1.1.2⟩]
       simp only[hrow]
       rw[if_pos ⟨hb.1.1.1.1,hb.1.1.1.2,hb.1.2,hb.2⟩]
       rfl
     ·exact h.elim
    ·rename_i k₀
     split at h
     ·rename_i ro z' rs hσ
      split at h
      ·obtain ⟨hb,hk⟩:=h
       simp only[Bool.and_eq_true,decide_eq_true_eq] at hb
       refine ⟨_,_,_,?_,hk⟩
       simp only[one,dP,if_pos htu,he,hz,hby,hzv,hxs]
       rw[if_pos ⟨hc.1.1,hc.1.2,hc.2,hb.1.1.2⟩]
       simp only[hσ]
       rw[if_pos ⟨hb.1.1.1,hb.1.2,hb.2⟩]
       rfl
      ·exact h.elim
     ·exact h.elim
    ·exact h.elim
   ·exact h.elim
  ·exact h.elim
 ·rename_i e htu he
  obtain ⟨d,σ',n',h1,h2⟩:=vR (t:=t) he h
  refine ⟨d,σ',n',?_,h2⟩
  unfold dP
  rw[if_neg (of_decide_eq_false htu)]
  exact h1
 ·exact h.elim
theorem FU {σ:Nat→Option aK} {n:Nat} {t:TypeId} {a b:D} {K:KN} (h:MZ gE P σ n t a b K):∃ d σ' n',one n (w6 P σ n t a b)=some (d,σ',n')∧K d σ' n':=by
 unfold MZ at h
 split at h
 ·rename_i e he
  split at h
  ·rename_i z by_ zv k1 x k2 y hz hby hzv
   split at h
   ·rename_i hc
    simp only[Bool.and_eq_true,decide_eq_true_eq,beq_iff_eq] at hc
    obtain ⟨hb,hk⟩:=h
    simp only[Bool.and_eq_true,Bool.or_eq_true,decide_eq_true_eq] at hb
    refine ⟨_,_,_,?_,hk⟩
    simp only[one,w6,he,hz,hby,hzv]
    rw[if_pos ⟨hb.1.1.1,hb.1.1.2,hb.1.2,hb.2,hc.1.1,hc.1.2,hc.2⟩]
    rfl
   ·exact h.elim
  ·exact h.elim
 ·exact h.elim
theorem xA {σ:Nat→Option aK} {n:Nat} {t:TypeId} {x i v:D} {K:KN} (h:P6 gE P σ n t x i v K):∃ d σ' n',one n ((CS P σ t x i v).map fun σ'=>(D.p (.v undef),σ'))=some (d,σ',n')∧K d σ' n':=by
 unfold P6 at h
 split at h
 ·rename_i kt et hu
  split at h
  ·rename_i kd k m hk
   split at h
   ·rename_i ro es hkey hσ
    split at h
    ·obtain ⟨r,hr,hk'⟩:=h
     refine ⟨_,_,_,?_,hk'⟩
     simp only[one,CS,hu,hk,hkey,hσ,hr]
     rfl
    ·exact h.elim
   ·exact h.elim
  ·exact h.elim
 ·exact h.elim
theorem FW {σ:Nat→Option aK} {n:Nat} {b:Bool} {x:D} {K:KN} (h:NA gE σ n b x K):∃ d σ' n',one n (xB σ b x)=some (d,σ',n')∧K d σ' n':=by
 unfold NA at h
 split at h
 ·rename_i k
  split at h
  ·rename_i s pos hσ
   rw[jX] at h
   by_cases hp:pos<s.size
   ·refine ⟨_,_,_,?_,h.1 (by simpa using hp)⟩
    simp only[one,xB,hσ]
    rw[if_pos hp]
    rfl
   ·refine ⟨_,_,_,?_,h.2 (by simpa using hp)⟩
    simp only[one,xB,hσ]
    rw[if_neg hp]
    rfl
  ·exact h.elim
 ·exact h.elim
theorem B5 {σ:Nat→Option aK} {n:Nat} {f:D} {args:List D} {K:KN} (h:E6 gE P E σ n f args K):∃ d σ' n',gU E σ n f args=some (d,σ',n')∧K d σ' n':=by
 unfold E6 at h
 split at h
 ·rename_i fid a b hc
  split at h
  ·rename_i z g hE
   unfold Q8 at h
   split at h
   ·rename_i k hargs
    split at h
    ·rename_i ro z' rows hσ
     split at h
     ·rename_i hz
      obtain ⟨rows',h1,h2⟩:=h
      refine ⟨_,_,_,?_,h2⟩
      simp only[gU,hc,hE,B8,hargs,hσ,hz,h1,Option.map_some]
     ·exact h.elim
    ·exact h.elim
   ·exact h.elim
  ·rename_i z g hE
   unfold Q0 at h
   split at h
   ·rename_i r k rest hr hargs
    split at h
    ·rename_i ro z' rows ts hσ hts
     split at h
     ·rename_i hz
      obtain ⟨l,h1,h2⟩:=h
      rw[Bool.and_eq_true] at hz
      have hw:r.w=z:=of_decide_eq_true hz.2
      rw[hw] at h2
      refine ⟨_,_,_,?_,h2⟩
      simp only[gU,hc,hE,B7,hargs,hσ,hts,hz.1,h1,Option.map_some]
     ·exact h.elim
    ·exact h.elim
   ·exact h.elim
  ·rename_i z g hE
   unfold TZ at h
   split at h
   ·rename_i k hargs
    split at h
    ·rename_i ro z' rows hσ
     split at h
     ·rename_i hz
      obtain ⟨h1,h2⟩:=h
      refine ⟨_,_,_,?_,h2⟩
      rw[Bool.and_eq_true] at h1
      simp only[gU,hc,hE,E7,hargs,hσ,hz,h1.1,h1.2,Bool.and_true]
     ·exact h.elim
    ·exact h.elim
   ·rename_i t hargs
    split at h
    ·rename_i full rows hr
     obtain ⟨h1,h2⟩:=h
     refine ⟨_,_,_,?_,h2⟩
     simp only[gU,hc,hE,E7,hargs,hr,h1]
    ·exact h.elim
   ·exact h.elim
  ·rename_i z g hE
   unfold ON at h
   split at h
   ·rename_i m hargs
    obtain ⟨h1,h2⟩:=h
    refine ⟨_,_,_,?_,h2⟩
    simp only[gU,hc,hE,B9,hargs,h1]
   ·exact h.elim
  ·rename_i g hE
   unfold Q3 at h
   split at h
   ·rename_i k i j rest hargs
    split at h
    ·rename_i ro ds hij hσ
     split at h
     ·rename_i cs ts hcs hts
      split at h
      ·rename_i sy s ss hsy hs
       split at h
       ·rename_i hw
        obtain ⟨y,h1,h2⟩:=h
        refine ⟨_,_,_,?_,h2⟩
        have h1':g (.agg cs::ts)=some (.aT (.agg (sy.enc y.1)::Sh.dI (s::ss) y.2)):=h1
        have hl:decide ((sy.enc y.1).length=cs.length)=true:=by rw[Sy.cO];exact hw
        simp only[gU,hc,hE,qE,hargs,hij,hσ,hcs,hts,h1',hl,KU]
       ·exact h.elim
      ·exact h.elim
     ·exact h.elim
    ·exact h.elim
   ·exact h.elim
  ·rename_i c g hE
   unfold Q7 at h
   split at h
   ·rename_i sy ts hsh hts
    split at h
    ·rename_i z hz
     obtain ⟨y,hg,h⟩:=h
     split at h
     ·rename_i fl rows hcc
      obtain ⟨h1,h2⟩:=h
      refine ⟨_,_,_,?_,h2⟩
      rw[Bool.and_eq_true] at h1
      have hg':g ts=some (.agg (sy.enc y)):=hg
      cases rows with
      | nil=>cases h1.1
      | cons r rows =>
       have hr:r.length=z:=by
        have:=List.all_eq_true.1 h1.2 r List.mem_cons_self
        simpa using this
       subst hr
       simp only[gU,hc,hE,hts,hg',hcc]
     ·exact h.elim
    ·exact h.elim
   ·exact h.elim
  ·split at h
   ·rename_i g r ts hE hr hts
    obtain ⟨l,h1,h2⟩:=h
    rw[jX] at h2
    cases l with
    | nil =>
     refine ⟨_,_,_,?_,h2.1 rfl⟩
     simp only[gU,hc,hE,hts,h1]
     rfl
    | cons x l =>
     refine ⟨_,_,_,?_,h2.2 rfl⟩
     simp only[gU,hc,hE,hts,h1,List.map_cons,Sy.cO]
   ·exact h.elim
 ·exact h.elim
theorem NF {σ:Nat→Option aK} {s:Nat→D} {n:Nat} {op:Op} {K:KN} (h:WC gE P E σ s n op K):∃ d σ' n',nv P E σ s n op=some (d,σ',n')∧K d σ' n':=by
 unfold WC at h
 split at h
 ·exact DH h
 ·exact FU h
 ·exact xA h
 ·exact xA h
 ·exact FW h
 ·rename_i c
  split at h
  ·rename_i x y t u hc ha hat
   obtain ⟨d,σ',n',h1,h2⟩:=yU h
   refine ⟨d,σ',n',?_,h2⟩
   simp only[nv,hc,ha,hat]
   exact h1
  ·rename_i f hc
   obtain ⟨d,σ',n',h1,h2⟩:=B5 h
   refine ⟨d,σ',n',?_,h2⟩
   simp only[nv,hc,BM,h1]
  ·exact h.elim
 ·exact xD h
end
def j4 (σ:Nat→Option aK) (n:Nat) (σ':Nat→Option aK) (n':Nat):Prop:=n≤n'∧∀ k x,k<n→σ k=some x→c7 x=false→σ' k=some x
theorem j4.refl (σ:Nat→Option aK) (n:Nat):j4 σ n σ n:=⟨Nat.le_refl _,fun _ _ _ h _=>h⟩
theorem j4.trans {σ σ' σ'':Nat→Option aK} {n n' n'':Nat} (h:j4 σ n σ' n') (h':j4 σ' n' σ'' n''):j4 σ n σ'' n'' :=
 ⟨Nat.le_trans h.1 h'.1,fun k x hk hx hw=>h'.2 k x (Nat.lt_of_lt_of_le hk h.1) (h.2 k x hk hx hw) hw⟩
theorem j4.new {σ:Nat→Option aK} {n n':Nat} (x:Option aK) (h:n≤n'):j4 σ n (aZ σ n x) n':=⟨h,fun k y hk hy _=>by rw[aL _ _ (by omega)];exact hy⟩
theorem j4.same {σ:Nat→Option aK} {n n':Nat} (h:n≤n'):j4 σ n σ n':=⟨h,fun _ _ _ h _=>h⟩
theorem j4.set {σ:Nat→Option aK} {n n' m:Nat} {x₀:aK} (x:Option aK) (h:n≤n') (hm:σ m=some x₀) (hw:c7 x₀=true):j4 σ n (aZ σ m x) n':=⟨h,fun k y hk hy hy'=>by
 by_cases e:k=m
 ·subst e;rw[hm] at hy;cases hy;rw[hw] at hy';cases hy'
 ·rw[aL _ _ e];exact hy⟩
def eC (E:Env):Prop:=∀ f g,E f≠some (.heap g)
section
variable {P : Program} {E : Env}
theorem cS {n:Nat} {x:Option (D×(Nat→Option aK))} {d:D} {σ':Nat→Option aK} {n':Nat} (h:one n x=some (d,σ',n')):x=some (d,σ')∧n'=n+1:=by
 unfold one at h
 cases x with
 | none=>cases h
 | some y=>obtain ⟨a,b⟩:=y;simp only[Option.map_some,Option.some.injEq,Prod.mk.injEq] at h;obtain ⟨rfl,rfl,rfl⟩:=h;exact ⟨rfl,rfl⟩
theorem LV (hh:eC E) {σ:Nat→Option aK} {n:Nat} {c:D} {args:List D} {d:D} {σ':Nat→Option aK} {n':Nat} (h:gU E σ n c args=some (d,σ',n')):j4 σ n σ' n':=by
 unfold gU at h
 split at h
 ·split at h
  ·split at h
   ·split at h
    ·split at h
     ·cases h;exact .same (by omega)
     ·cases h;exact .new _ (by omega)
    ·cases h
   ·split at h
    ·split at h
     ·split at h
      ·cases h;exact .new _ (by omega)
      ·cases h
     ·cases h
    ·cases h
  ·split at h
   ·split at h
    ·cases h;exact .same (by omega)
    ·split at h
     ·cases h;exact .new _ (by omega)
     ·cases h
    ·cases h
   ·cases h
  ·rename_i hg;exact absurd hg (hh _ _)
  ·unfold B8 at h
   split at h
   ·split at h
    ·rename_i hσ
     split at h
     ·simp only[Option.map_eq_some_iff,Prod.mk.injEq] at h
      obtain ⟨_,_,_,rfl,rfl⟩:=h
      exact .set _ (by omega) hσ rfl
     ·cases h
    ·cases h
   ·cases h
  ·unfold B7 at h
   split at h
   ·split at h
    ·rename_i hσ
     split at h
     ·simp only[Option.map_eq_some_iff,Prod.mk.injEq] at h
      obtain ⟨_,_,_,rfl,rfl⟩:=h
      exact (j4.set (n':=n) none (Nat.le_refl _) hσ rfl).trans (.new _ (by omega))
     ·cases h
    ·cases h
   ·cases h
  ·unfold E7 at h
   split at h
   ·split at h
    ·split at h
     ·simp only[Option.some.injEq,Prod.mk.injEq] at h
      obtain ⟨_,rfl,rfl⟩:=h
      exact .new _ (by omega)
     ·cases h
    ·cases h
   ·split at h
    ·split at h
     ·simp only[Option.some.injEq,Prod.mk.injEq] at h
      obtain ⟨_,rfl,rfl⟩:=h
      exact .new _ (by omega)
     ·cases h
    ·cases h
   ·cases h
  ·unfold B9 at h
   split at h
   ·split at h
    ·simp only[Option.some.injEq,Prod.mk.injEq] at h
     obtain ⟨_,rfl,rfl⟩:=h
     exact .new _ (by omega)
    ·cases h
   ·cases h
  ·unfold qE at h
   split at h
   ·split at h
    ·rename_i hσ
     split at h
     ·split at h
      ·split at h
       ·simp only[Option.some.injEq,Prod.mk.injEq] at h
        obtain ⟨_,rfl,rfl⟩:=h
        exact .set _ (by omega) hσ rfl
       ·cases h
      ·cases h
     ·cases h
    ·cases h
   ·cases h
  ·split at h
   ·split at h
    ·split at h
     ·simp only[Option.some.injEq,Prod.mk.injEq] at h
      obtain ⟨_,rfl,rfl⟩:=h
      exact .new _ (by omega)
     ·cases h
    ·cases h
   ·cases h
  ·cases h
 ·cases h
theorem uC:∀ {ps ps':List (Nat×D)} {σ σ1:Nat→Option aK} {n n':Nat},n≤n'→mO σ ps=some (ps',σ1)→j4 σ n σ1 n'
 | [],ps',σ,σ1,n,n',hn,h=>by
  simp only[mO] at h
  cases h
  exact .same hn
 | p::ps,ps',σ,σ1,n,n',hn,h=>by
  obtain ⟨pi,pd⟩:=p
  unfold mO at h
  split at h
  ·rename_i e;cases e
  ·rename_i i k r e
   cases e
   split at h
   ·rename_i z rows hk
    simp only[Option.map_eq_some_iff,Prod.mk.injEq] at h
    obtain ⟨⟨_,_⟩,hg,_,rfl⟩:=h
    exact (j4.set (n':=n) none (Nat.le_refl _) hk rfl).trans (uC hn hg)
   ·cases h
  ·rename_i i d r _ e
   cases e
   simp only[Option.map_eq_some_iff,Prod.mk.injEq] at h
   obtain ⟨⟨_,_⟩,hg,_,rfl⟩:=h
   exact uC hn hg
theorem UU (hh:eC E) {σ:Nat→Option aK} {s:Nat→D} {n:Nat} {op:Op} {d:D} {σ':Nat→Option aK} {n':Nat} (h:nv P E σ s n op=some (d,σ',n')):j4 σ n σ' n':=by
 unfold nv at h
 split at h
 ·obtain ⟨h1,rfl⟩:=cS h
  cases hz:tz? P _ with
  | none=>rw[hz] at h1;cases h1
  | some z =>
   rw[hz] at h1
   simp only[Option.bind_some,Option.map_eq_some_iff,Prod.mk.injEq] at h1
   obtain ⟨b,_,rfl,rfl⟩:=h1
   exact .new _ (by omega)
 ·obtain ⟨h1,rfl⟩:=cS h
  simp only[Option.map_eq_some_iff,Prod.mk.injEq] at h1
  obtain ⟨b,_,rfl,rfl⟩:=h1
  exact .new _ (by omega)
 ·obtain ⟨h1,rfl⟩:=cS h
  simp only[Option.map_eq_some_iff,Prod.mk.injEq] at h1
  obtain ⟨σ₂,h2,rfl,rfl⟩:=h1
  unfold eP at h2
  split at h2
  ·split at h2
   ·rename_i hσ hz
    split at h2
    ·split at h2
     ·cases h2;exact .set _ (by omega) hσ rfl
     ·cases h2
    ·cases h2
   ·rename_i hσ hz
    split at h2
    ·split at h2
     ·cases h2;exact .set _ (by omega) hσ rfl
     ·cases h2
    ·cases h2
   ·cases h2
  ·cases h2
 ·split at h
  ·rename_i r hr
   obtain ⟨h1,rfl⟩:=cS h
   cases h1
   unfold HM at hr
   split at hr
   ·split at hr
    ·cases hr;exact .new _ (by omega)
    ·cases hr
   ·cases hr;exact .new _ (by omega)
   ·cases hr;exact .new _ (by omega)
   ·cases hr
  ·obtain ⟨h1,rfl⟩:=cS h
   unfold F8 at h1
   split at h1
   ·cases h1;exact .new _ (by omega)
   ·cases h1
 ·split at h
  ·obtain ⟨h1,rfl⟩:=cS h
   cases h1;exact .new _ (by omega)
  ·split at h
   ·obtain ⟨h1,rfl⟩:=cS h
    cases h1;exact .new _ (by omega)
   ·cases h
 ·obtain ⟨h1,rfl⟩:=cS h
  unfold w6 at h1
  split at h1
  ·split at h1
   ·split at h1
    ·cases h1;exact .new _ (by omega)
    ·cases h1
   ·cases h1
  ·cases h1
 ·split at h
  ·rename_i hgv
   split at h
   ·obtain ⟨h1,rfl⟩:=cS h
    cases h1;exact (uC (Nat.le_refl _) hgv).trans (.new _ (by omega))
   ·cases h
  ·cases h
 ·obtain ⟨h1,rfl⟩:=cS h
  simp only[Option.map_eq_some_iff,Prod.mk.injEq] at h1
  obtain ⟨σ₂,h2,rfl,rfl⟩:=h1
  unfold CS at h2
  split at h2
  ·split at h2
   ·split at h2
    ·rename_i hσ
     split at h2
     ·cases h2;exact .set _ (by omega) hσ rfl
     ·cases h2
    ·cases h2
   ·cases h2
  ·cases h2
 ·obtain ⟨h1,rfl⟩:=cS h
  simp only[Option.map_eq_some_iff,Prod.mk.injEq] at h1
  obtain ⟨σ₂,h2,rfl,rfl⟩:=h1
  unfold CS at h2
  split at h2
  ·split at h2
   ·split at h2
    ·rename_i hσ
     split at h2
     ·cases h2;exact .set _ (by omega) hσ rfl
     ·cases h2
    ·cases h2
   ·cases h2
  ·cases h2
 ·obtain ⟨h1,rfl⟩:=cS h
  unfold HI at h1
  split at h1
  ·split at h1
   ·split at h1
    ·rename_i hσ
     split at h1
     ·cases h1;exact .set _ (by omega) hσ rfl
     ·cases h1;exact .set _ (by omega) hσ rfl
     ·cases h1
    ·cases h1
   ·cases h1
  ·cases h1
 ·obtain ⟨h1,rfl⟩:=cS h
  simp only[Option.map_eq_some_iff,Prod.mk.injEq] at h1
  obtain ⟨σ₂,h2,rfl,rfl⟩:=h1
  unfold HN at h2
  split at h2
  ·split at h2
   ·rename_i hσ
    split at h2
    ·cases h2;exact .set _ (by omega) hσ rfl
    ·cases h2
   ·cases h2
  ·cases h2
 ·obtain ⟨h1,rfl⟩:=cS h
  simp only[Option.map_eq_some_iff,Prod.mk.injEq] at h1
  obtain ⟨_,_,_,rfl⟩:=h1
  exact .same (by omega)
 ·obtain ⟨h1,rfl⟩:=cS h
  unfold xB at h1
  split at h1
  ·split at h1
   ·rename_i hσ
    split at h1
    ·cases h1;exact .set _ (by omega) hσ rfl
    ·cases h1;exact .same (by omega)
   ·cases h1
  ·cases h1
 ·split at h
  ·obtain ⟨h1,rfl⟩:=cS h
   unfold dP at h1
   split at h1
   ·split at h1
    ·split at h1
     ·split at h1
      ·split at h1
       ·split at h1
        ·split at h1
         ·cases h1;exact .new _ (by omega)
         ·cases h1
        ·split at h1
         ·cases h1;exact .same (by omega)
         ·split at h1
          ·cases h1;exact .new _ (by omega)
          ·cases h1
        ·cases h1
       ·split at h1
        ·rename_i hσ
         split at h1
         ·cases h1
          exact (j4.set (n':=n) none (Nat.le_refl _) hσ rfl).trans (.new _ (by omega))
         ·cases h1
        ·cases h1
       ·cases h1
      ·cases h1
     ·cases h1
    ·cases h1
   ·unfold j6 at h1
    split at h1
    ·split at h1
     ·split at h1
      ·split at h1
       ·split at h1
        ·rename_i hσ
         split at h1
         ·cases h1
          exact (j4.set (n':=n) none (Nat.le_refl _) hσ rfl).trans (.new _ (by omega))
         ·cases h1
        ·cases h1
       ·split at h1
        ·split at h1
         ·cases h1;exact .same (by omega)
         ·split at h1
          ·cases h1;exact .same (by omega)
          ·cases h1
        ·cases h1
       ·cases h1
      ·cases h1
     ·cases h1
    ·cases h1
  ·unfold BM at h
   split at h
   ·rename_i r hcf
    cases h
    exact LV hh hcf
   ·simp only[Option.map_eq_some_iff,Prod.mk.injEq] at h
    obtain ⟨_,_,_,rfl,rfl⟩:=h
    exact .same (Nat.le_refl _)
  ·cases h
 ·cases h
end
section
variable (C : Combs) (P : Program) (E : Env) (nt : Nat)
def splitK (ops:Array Oper) (o:Oper) (st:St) (K:St→Prop):Prop:=match o.guard with
 | none=>K st
 | some (j,_)=>match (ops[j]?).bind (·.dst) with
  | none=>K st
  | some t=>match st.s t with
   | .p (.v (.bool b))=>aI b (K ⟨aZ st.s t (.p (.v (.bool true))),st.σ,st.n⟩) (K ⟨aZ st.s t (.p (.v (.bool false))),st.σ,st.n⟩)
   | _=>K st
def pV (st:St) (dst:Option Tmp) (d:D) (σ':Nat→Option aK) (n':Nat) (K:St→Prop):Prop:=match iP nt st dst d σ' n' with
 | some st'=>K st'
 | none=>C.bad 201
def mS (ops:Array Oper) (o:Oper) (st:St) (K:St→Prop):Prop :=
 match cR ops st.s o with
 | some true=>match bS E o.op with
  | true=>WE C P E st.n st.σ st.s (aW true st.s) o.op fun d=>pV C nt st o.dst d st.σ st.n K
  | false=>WC C P E st.σ (aW true st.s) st.n o.op fun d σ' n'=>pV C nt st o.dst d σ' n' K
 | some false=>pV C nt st o.dst (.p (.v undef)) st.σ st.n K
 | none=>C.bad 202
end
def VW (A:Nat→Bool) (st st':St):Prop:=∀ i,A i=false→st'.s i=st.s i
structure Fr (A:Nat→Bool) (st st':St):Prop where
 s:VW A st st'
 b:j4 st.σ st.n st'.σ st'.n
theorem Fr.refl (A:Nat→Bool) (st:St):Fr A st st:=⟨fun _ _=>rfl,j4.refl _ _⟩
theorem Fr.trans {A:Nat→Bool} {st st' st'':St} (h:Fr A st st') (h':Fr A st' st''):Fr A st st'':=⟨fun i hi=>(h'.s i hi).trans (h.s i hi),h.b.trans h'.b⟩
theorem Fr.mono {A B:Nat→Bool} {st st':St} (h:Fr A st st') (hab:∀ i,B i=false→A i=false):Fr B st st':=⟨fun i hi=>h.s i (hab i hi),h.b⟩
section
variable {P : Program} {E : Env} {nt : Nat} {ops : Array Oper}
theorem jF {o:Oper} {st:St} {K:St→Prop} (h:splitK ops o st K):K st:=by
 unfold splitK at h
 split at h
 ·exact h
 ·split at h
  ·exact h
  ·rename_i t ht
   split at h
   ·rename_i b hb
    have key:∀ c,b=c→(⟨aZ st.s t (.p (.v (.bool c))),st.σ,st.n⟩:St)=st:=by
     intro c hc
     subst hc
     have:aZ st.s t (.p (.v (.bool b)))=st.s:=by
      funext i
      by_cases e:i=t
      ·subst e;rw[o4,hb]
      ·rw[aL _ _ e]
     rw[this]
    cases b with
    | true=>rw[←key true rfl];exact h
    | false=>rw[←key false rfl];exact h
   ·exact h
theorem dL {st:St} {dst:Option Tmp} {d:D} {σ':Nat→Option aK} {n':Nat} {K:St→Prop} (h:pV gE nt st dst d σ' n' K):∃ st',iP nt st dst d σ' n'=some st'∧K st':=by
 unfold pV at h
 split at h
 ·exact ⟨_,‹_›,h⟩
 ·exact h.elim
theorem dV {o:Oper} {st:St} {K:St→Prop} (h:mS gE P E nt ops o st K):∃ st',cF P E nt ops o st=some st'∧K st':=by
 unfold mS at h
 unfold cF
 split at h
 ·rename_i hg
  split at h
  ·rename_i hq
   obtain ⟨d,h1,h2⟩:=NZ h
   obtain ⟨st',h3,h4⟩:=dL h2
   exact ⟨st',by simp only[hq,if_true,c8,hg,h1,h3],h4⟩
  ·rename_i hq
   obtain ⟨d,σ',n',h1,h2⟩:=NF h
   obtain ⟨st',h3,h4⟩:=dL h2
   exact ⟨st',by simp only[hq,Bool.false_eq_true,if_false,hg,h1,h3],h4⟩
 ·rename_i hg
  obtain ⟨st',h3,h4⟩:=dL h
  refine ⟨st',?_,h4⟩
  by_cases hq:bS E o.op=true
  ·simp only[hq,if_true,c8,hg,h3]
  ·simp only[hq,Bool.false_eq_true,if_false,hg,h3]
 ·exact h.elim
theorem gG {st st':St} {dst:Option Tmp} {d:D} {σ':Nat→Option aK} {n':Nat} {A:Nat→Bool} (h:iP nt st dst d σ' n'=some st') (hA:∀ t,dst=some t→A t=true) (hf:j4 st.σ st.n σ' n'):Fr A st st':=by
 obtain ⟨_,rfl⟩:=jB h
 refine ⟨fun i hi=>?_,hf⟩
 unfold iQ
 cases dst with
 | none=>rfl
 | some t=>exact aL _ _ fun e=>by subst e;rw[hA _ rfl] at hi;cases hi
theorem eY (hh:eC E) {o:Oper} {st st':St} {A:Nat→Bool} (h:cF P E nt ops o st=some st') (hA:∀ t,o.dst=some t→A t=true):Fr A st st':=by
 unfold cF at h
 split at h
 ·split at h
  ·exact gG h hA (j4.refl _ _)
  ·cases h
 ·split at h
  ·split at h
   ·rename_i d σ' n' hn
    exact gG h hA (UU hh hn)
   ·cases h
  ·exact gG h hA (j4.refl _ _)
  ·cases h
end
end Go.Pv
