/-
  The symbolic executor, part c: operations that write or make memory; a whole region.
-/
import Derived.Test.YtlongjgklndggaaGreatDoorVbkb
set_option linter.defProp false
set_option linter.unusedSimpArgs false
namespace Go.Pv
open Go Go.RowKit
abbrev KN:=D→(Nat→Option aB)→Nat→Prop
section
variable (C : Combs) (P : Program) (E : Env)
def OS (c:Nat) (x:Option (D×(Nat→Option aB)×Nat)) (K:KN):Prop:=match x with
 | some (d,σ',n')=>K d σ' n'
 | none=>C.bad c
def EJ (σ:Nat→Option aB) (n:Nat) (t:TypeId) (a v:D) (K:KN):Prop :=
 match a with
 | .ptr k i j=>match σ k with
  | some (.arr ro za rows)=>match ro,tsz? P t,dM v.cells with
   | false,some z,some ts=>match decide (0<z)&&ts.length == z&&ts.all T.leaf with
    | true=>C.row rows i fun r=>C.kZ (decide (j+z≤r.length)) (K (.p (.v undef)) (aQ σ k (some (.arr false za (rows.set i (aS r j ts))))) (n+1))
    | false=>C.bad 101
   | _,_,_=>C.bad 102
  | _=>OS C 103 (one n ((dX P σ t a v).map fun σ'=>(.p (.v undef),σ'))) K
 | _=>C.bad 104
def UD (a b:List (List T)):List (List T):=a++b
def sA (σ:Nat→Option aB) (n:Nat) (u e:TypeId) (s x:D) (K:KN):Prop :=
 match P.underlying u,x with
 | some .string,.p (.v (.string b))=>match tsz? P e,tby? P e,tz? P e,s with
  | some z,some by_,some zv,.own k₀=>match decide (z=1)&&zv.cells.size == 1&&zv.cells.all Value.oneCell',σ k₀ with
   | true,some (.arr false z' rs)=>C.kZ (decide (z'=1)&&decide ((rs.length+b.size)*by_≤140737488355328)&&decide (rs.length+b.size≤140737488355328)) (K (.own n) (aQ (aQ σ k₀ none) n (some (.arr false 1 (rs++aX b)))) (n+1))
   | _,_=>C.bad 118
  | _,_,_,_=>C.bad 119
 | _,_=>C.bad 117
def xQ (σ:Nat→Option aB) (n:Nat) (t u:TypeId) (s x:D) (K:KN):Prop :=
 match decide (t=u),eM P t with
 | true,some e =>
  match tsz? P e,tby? P e,tz? P e,pH σ x with
  | some z,some by_,some zv,some xs =>
   match decide (0<z)&&zv.cells.size == z&&zv.cells.all Value.oneCell' with
   | true=>match s with
    | .p st=>match bT st with
     | some (full,[])=>C.kZ (dP z xs&&full&&decide (xs.length*by_≤140737488355328)&&decide (xs.length≤140737488355328)) (K (.own n) (aQ σ n (some (.arr false z xs))) (n+1))
     | some (full,r::rows)=>aC xs.isEmpty (K (.p st) σ (n+1)) (C.kZ (full&&dP z (r::rows)&&dP z xs&&decide (((r::rows).length+xs.length)*by_≤140737488355328)&&decide ((r::rows).length+xs.length≤140737488355328)) (K (.own n) (aQ σ n (some (.arr false z (UD (r::rows) xs)))) (n+1)))
     | none=>C.bad 111
    | .own k₀=>match σ k₀ with
     | some (.arr ro z' rs)=>match ro with
      | false=>C.kZ (decide (z'=z)&&dP z xs&&decide ((rs.length+xs.length)*by_≤140737488355328)&&decide (rs.length+xs.length≤140737488355328)) (K (.own n) (aQ (aQ σ k₀ none) n (some (.arr false z (rs++xs)))) (n+1))
      | true=>C.bad 112
     | _=>C.bad 113
    | _=>C.bad 114
   | false=>C.bad 115
  | _,_,_,_=>C.bad 116
 | false,some e=>sA C P σ n u e s x K
 | _,_=>C.bad 117
def KV (σ:Nat→Option aB) (n:Nat) (t:TypeId) (len cap:D) (K:KN):Prop :=
 match eM P t with
 | some e =>
  match tsz? P e,tby? P e,tz? P e,len,cap with
  | some z,some by_,some zv,.p (.v (.int _ a)),.p (.v (.int _ b)) =>
   match decide (0<z)&&zv.cells.size == z&&zv.cells.all Value.oneCell' with
   | true=>C.kZ ((decide (a=b)||decide (a=0))&&decide (0≤b)&&decide (b*by_≤140737488355328)&&decide (b≤140737488355328)) (K (.own n) (aQ σ n (some (.arr false z (List.replicate a.toNat (zv.cells.toList.map .v))))) (n+1))
   | false=>C.bad 121
  | _,_,_,_,_=>C.bad 122
 | none=>C.bad 123
def OD (σ:Nat→Option aB) (n:Nat) (t:TypeId) (x i v:D) (K:KN):Prop :=
 match P.underlying t with
 | some (.map kt _) =>
  match jO P kt,i,x with
  | some kd,.p (.v k),.map m =>
   match mY kd k,σ m with
   | true,some (.map ro es)=>match ro with
    | false=>C.opt _ (findD kd k es 0) fun r=>K (.p (.v undef)) (aQ σ m (some (.map false (L6 es r k v)))) (n+1)
    | true=>C.bad 131
   | _,_=>C.bad 132
  | _,_,_=>C.bad 133
 | _=>C.bad 134
def K7 (σ:Nat→Option aB) (n:Nat) (isString:Bool) (d:D) (K:KN):Prop :=
 match isString,d with
 | true,.it k=>match σ k with
  | some (.gU s pos)=>aC (decide (pos<s.size)) (K (.p (.v (.tuple #[.bool true,.int .i64 pos,.int .i32 (Utf8.decode s pos).1]))) (aQ σ k (some (.gU s (pos+(Utf8.decode s pos).2)))) (n+1)) (K (.p (.v (.tuple #[.bool false]))) σ (n+1))
  | _=>C.bad 141
 | _,_=>C.bad 142
def JZ (fid:FuncId):Option Sy:=match P.funcs[fid]? with
 | some fn=>match fn.resultTypes.toList with
  | [t]=>match eM P t with
   | some e=>zF P e
   | none=>none
  | _=>none
 | none=>none
def PI (z:Nat) (g:List (List T)→Option (List (List T))) (σ:Nat→Option aB) (n:Nat) (args:List D) (K:KN):Prop :=
 match args with
 | [.own k]=>match σ k with
  | some (.arr ro z' rows)=>match ro,decide (z'=z) with
   | false,true=>C.opt (List (List T)) (g rows) fun rows'=>K (.p (.v (.tuple #[]))) (aQ σ k (some (.arr false z rows'))) (n+1)
   | _,_=>C.bad 155
  | _=>C.bad 156
 | _=>C.bad 157
def PC (z:Nat) (g:List (List T)→List T→Option (List (List T))) (o:Option Sy) (σ:Nat→Option aB) (n:Nat) (args:List D) (K:KN):Prop :=
 match o,args with
 | some r,.own k::rest=>match σ k,dM rest with
  | some (.arr ro z' rows),some ts=>match ro,decide (z'=z)&&decide (r.w=z) with
   | false,true=>C.fresh r (g rows ts) fun l=>K (.own n) (aQ (aQ σ k none) n (some (.arr false r.w (l.map r.enc)))) (n+1)
   | _,_=>C.bad 165
  | _,_=>C.bad 166
 | _,_=>C.bad 167
def S5 (z y:Nat) (σ:Nat→Option aB) (n:Nat) (args:List D) (K:KN):Prop :=
 match args with
 | [.own k]=>match σ k with
  | some (.arr _ z' rows)=>match decide (z'=z) with
   | true=>C.kZ (decide (rows.length*y≤140737488355328)&&decide (rows.length≤140737488355328)) (K (.own n) (aQ σ n (some (.arr false z rows))) (n+1))
   | false=>C.bad 168
  | _=>C.bad 169
 | [.p t]=>match bT t with
  | some (_,rows)=>C.kZ ((rows.all fun r=>decide (r.length=z))&&decide (rows.length*y≤140737488355328)&&decide (rows.length≤140737488355328)) (K (.own n) (aQ σ n (some (.arr false z rows))) (n+1))
  | none=>C.bad 170
 | _=>C.bad 171
def L9 (z y:Nat) (σ:Nat→Option aB) (n:Nat) (args:List D) (K:KN):Prop :=
 match args with
 | [.p (.v (.slice none 0 0)),.p (.v (.int .i64 m))]=>C.kZ (decide (0≤m)&&decide (m.toNat*y≤140737488355328)&&decide (m.toNat≤140737488355328)) (K (.own n) (aQ σ n (some (.arr false z []))) (n+1))
 | _=>C.bad 172
def KP:Sy→Nat→Option Nat
 | .pr a b,c=>match Nat.blt c a.w with
  | true=>KP a c
  | false=>KP b (c-a.w)
 | .li r,0=>some r.w
 | _,_=>none
def PH (c:Nat) (g:List T→Option T) (fid:FuncId) (σ:Nat→Option aB) (n:Nat) (args:List D) (K:KN):Prop :=
 match wW P fid,dM args with
 | some [(true,sy)],some ts=>match KP sy c with
  | some z=>C.call [(true,sy)] (g ts) fun y=>match (sy.enc y)[c]? with
   | some (.sl _ rows)=>C.kZ (!rows.isEmpty&&dP z rows) (K (.agg (((sy.enc y).map D.p).set c (.own n))) (aQ σ n (some (.arr false z rows))) (n+1))
   | _=>C.bad 175
  | none=>C.bad 176
 | _,_=>C.bad 177
def PK (fid:FuncId):Option Sy:=match P.funcs[fid]? with
 | some fn=>match fn.params.toList with
  | t::_=>match P.underlying t with
   | some (.pointer e)=>zF P e
   | _=>none
  | []=>none
 | none=>none
theorem wX (s:Bool×Sy) (ss:Sh) (y:Sh.den (s::ss)):yU (Sh.dQ (s::ss) y)=Sh.enc (s::ss) y:=by
 cases ss with
 | nil=>rfl
 | cons a l=>cases l<;>rfl
def PE (g:List T→Option T) (fid:FuncId) (σ:Nat→Option aB) (n:Nat) (args:List D) (K:KN):Prop :=
 match args with
 | .ptr k i j::rest=>match decide (i=0)&&decide (j=0),σ k with
  | true,some (.rows ro [ds])=>match ro,dM ds,dM rest with
   | false,some cs,some ts=>match PK P fid,wW P fid with
    | some sy,some (s::ss)=>match decide (sy.w=cs.length) with
     | true=>C.call ((true,sy)::s::ss) (g (.agg cs::ts)) fun y=>K (.p (Sh.enc (s::ss) y.2)) (aQ σ k (some (.rows false [(sy.enc y.1).map .p]))) (n+1)
     | false=>C.bad 181
    | _,_=>C.bad 182
   | _,_,_=>C.bad 183
  | _,_=>C.bad 184
 | _=>C.bad 185
def PQ:List TypeId→Option Sh
 | []=>some []
 | t::r=>match zF P t,PQ r with
  | some y,some s=>some ((true,y)::s)
  | _,_=>none
def O6 (vt:List TypeId) (g:List T→Option T) (fid:FuncId) (σ:Nat→Option aB) (n:Nat) (args:List D) (K:KN):Prop :=
 match sJ fid args σ with
 | some (ins,rows,kk,σ1)=>match PQ P vt,wW P fid with
  | some (v::vs),some (s::ss)=>C.call (v::(vs++s::ss)) (g ins) fun y=>match tV rows (Sh.dQ (v::(vs++s::ss)) y) with
   | true=>K (.p (yU ((Sh.dQ (v::(vs++s::ss)) y).drop rows.length))) (rF σ1 kk (Sh.dQ (v::(vs++s::ss)) y)) (n+1)
   | false=>C.bad 191
  | _,_=>C.bad 192
 | none=>C.bad 193
def PL (g:List T→Option T) (fid:FuncId) (σ:Nat→Option aB) (n:Nat) (args:List D) (K:KN):Prop :=
 match F1 args σ with
 | some (k,cs,ts,σ1)=>match PK P fid,wW P fid with
  | some sy,some (s::ss)=>match Nat.beq sy.w cs.length with
   | true=>C.call ((true,sy)::s::ss) (g (.agg cs::ts)) fun y=>K (.p (Sh.enc (s::ss) y.2)) (aQ σ1 k (some (.rows false [(sy.enc y.1).map .p]))) (n+1)
   | false=>C.bad 194
  | _,_=>C.bad 195
 | none=>C.bad 196
def PB (g:List T→Option T) (fid:FuncId) (σ:Nat→Option aB) (n:Nat) (args:List D) (K:KN):Prop :=
 match iB σ (args.map fun d=>(0,d)) with
 | some (ps,σ1)=>match dM (ps.map (·.2)),wW P fid with
  | some ts,some s=>C.call s (g ts) fun y=>K (.p (Sh.enc s y)) σ1 (n+1)
  | _,_=>C.bad 197
 | none=>C.bad 198
def DH (σ:Nat→Option aB) (n:Nat) (f:D) (args:List D) (K:KN):Prop :=
 match dK f with
 | some (fid,a,b)=>match E fid with
  | some (.perm z g)=>PI C z g σ n (a++args++b) K
  | some (.grow z g)=>PC C z g (JZ P fid) σ n (a++args++b) K
  | some (.dup z y)=>S5 C z y σ n (a++args++b) K
  | some (.room z y)=>L9 C z y σ n (a++args++b) K
  | some (.N8 g)=>PE C P g fid σ n (a++args++b) K
  | some (.AB vt g)=>O6 C P vt g fid σ n (a++args++b) K
  | some (.RO g)=>PL C P g fid σ n (a++args++b) K
  | some (.QY g)=>PB C P g fid σ n (a++args++b) K
  | some (.part c g)=>PH C P c g fid σ n (a++args++b) K
  | _=>match E fid,JZ P fid,dM (a++args++b) with
   | some (.fresh g),some r,some ts=>C.fresh r (g ts) fun l=>aC l.isEmpty (K (.p (.sl false [])) σ (n+1)) (K (.own n) (aQ σ n (some (.arr false r.w (l.map r.enc)))) (n+1))
   | some (.mT g),some r,some ts=>C.fresh r (g ts) fun l=>aC l.isEmpty (K (.p (.sl true [])) σ (n+1)) (C.kZ ((l.map r.enc).all fun x=>x.all T.flat) (K (.own n) (aQ σ n (some (.arr false r.w (l.map r.enc)))) (n+1)))
   | _,_,_=>C.bad 151
 | none=>C.bad 152
def JU (σ:Nat→Option aB) (n:Nat) (t:TypeId) (d s:D) (K:KN):Prop :=
 match eM P t with
 | some e=>match tsz? P e,pH σ s,d with
  | some z,some xs,.own k=>match σ k with
   | some (.arr ro z' rs)=>match ro,decide (z'=z) with
    | false,true=>C.kZ (decide (xs.length=rs.length)&&decide (0<xs.length)&&dP z xs) (K (.p (.v (.int .i64 (xs.length:Int)))) (aQ σ k (some (.arr false z xs))) (n+1))
    | _,_=>C.bad 163
   | _=>C.bad 164
  | _,_,_=>C.bad 173
 | none=>C.bad 174
def UL (σ:Nat→Option aB) (s:Nat→D) (n:Nat) (op:Op) (K:KN):Prop :=
 match op with
 | .store t a v=>EJ C P σ n t (ev s a) (ev s v) K
 | .makeSlice t l c=>KV C P σ n t (ev s l) (ev s c) K
 | .mapUpdate t m i v=>OD C P σ n t (ev s m) (ev s i) (ev s v) K
 | .insert t m i v=>OD C P σ n t (ev s m) (ev s i) (ev s v) K
 | .next it isString=>K7 C σ n isString (ev s it) K
 | .call c =>
  match c.callee,c.args.toList,c.argTypes.toList with
  | .builtin .append,[x,y],[t,u]=>xQ C P σ n t u (ev s x) (ev s y) K
  | .builtin .copy,[x,y],[t,_]=>JU C P σ n t (ev s x) (ev s y) K
  | .value f,as,_=>DH C P E σ n (ev s f) (as.map (ev s)) K
  | _,_,_=>C.bad 161
 | op=>OS C 162 (nv P E σ s n op) K
end
section
variable {P : Program} {E : Env}
theorem wS {c:Nat} {x:Option (D×(Nat→Option aB)×Nat)} {K:KN} (h:OS fB c x K):∃ d σ' n',x=some (d,σ',n')∧K d σ' n':=by
 unfold OS at h
 split at h
 ·exact ⟨_,_,_,rfl,h⟩
 ·exact h.elim
theorem B5 {σ:Nat→Option aB} {n:Nat} {t:TypeId} {a v:D} {K:KN} (h:EJ fB P σ n t a v K):∃ d σ' n',one n ((dX P σ t a v).map fun σ'=>(D.p (.v undef),σ'))=some (d,σ',n')∧K d σ' n':=by
 unfold EJ at h
 split at h
 ·rename_i k i j
  split at h
  ·rename_i ro za rows hσ
   split at h
   ·rename_i z ts hz hts
    split at h
    ·rename_i hc
     simp only[Bool.and_eq_true,decide_eq_true_eq,beq_iff_eq] at hc
     obtain ⟨r,hr,hb,hk⟩:=h
     have hb:j+z≤r.length:=of_decide_eq_true hb
     refine ⟨_,_,_,?_,hk⟩
     simp only[one,dX,hσ,hz,hr,hts]
     rw[if_pos ⟨hc.1.1,hc.1.2,hb,hc.2⟩]
     rfl
    ·exact h.elim
   ·exact h.elim
  ·exact wS h
 ·exact h.elim
theorem vD {σ:Nat→Option aB} {n:Nat} {t u e:TypeId} {s x:D} {K:KN} (he:eM P t=some e) (h:sA fB P σ n u e s x K):∃ d σ' n',one n (jF P σ n t u s x)=some (d,σ',n')∧K d σ' n':=by
 unfold sA at h
 split at h
 ·rename_i b hu
  split at h
  ·rename_i z by_ zv k₀ hz hby hzv
   split at h
   ·rename_i z' rs hc hσ
    simp only[Bool.and_eq_true,decide_eq_true_eq,beq_iff_eq] at hc
    obtain ⟨hb,hk⟩:=h
    simp only[Bool.and_eq_true,decide_eq_true_eq] at hb
    refine ⟨_,_,_,?_,hk⟩
    simp only[one,jF,he,hu,hz,hby,hzv]
    rw[if_pos ⟨hc.1.1,hc.1.2,hc.2⟩]
    simp only[hσ]
    rw[if_pos ⟨hb.1.1,hb.1.2,hb.2⟩]
    rfl
   ·exact h.elim
  ·exact h.elim
 ·exact h.elim
theorem xR {σ:Nat→Option aB} {n:Nat} {t u:TypeId} {s x:D} {K:KN} (h:xQ fB P σ n t u s x K):∃ d σ' n',one n (c6 P σ n t u s x)=some (d,σ',n')∧K d σ' n':=by
 unfold xQ at h
 split at h
 ·rename_i e htu he
  have htu:t=u:=of_decide_eq_true htu
  split at h
  ·rename_i z by_ zv xs hz hby hzv hxs
   split at h
   ·rename_i hc
    simp only[Bool.and_eq_true,decide_eq_true_eq,beq_iff_eq] at hc
    split at h
    ·rename_i st
     split at h
     ·rename_i full hrow
      obtain ⟨hb,hk⟩:=h
      simp only[Bool.and_eq_true,decide_eq_true_eq] at hb
      refine ⟨_,_,_,?_,hk⟩
      simp only[one,c6,if_pos htu,he,hz,hby,hzv,hxs]
      rw[if_pos ⟨hc.1.1,hc.1.2,hc.2,hb.1.1.1⟩]
      simp only[hrow]
      rw[if_pos ⟨hb.1.1.2,hb.1.2,hb.2⟩]
      rfl
     ·rename_i full r rows hrow
      rw[fK] at h
      cases xs with
      | nil =>
       refine ⟨_,_,_,?_,h.1 rfl⟩
       simp only[one,c6,if_pos htu,he,hz,hby,hzv,hxs]
       rw[if_pos ⟨hc.1.1,hc.1.2,hc.2,rfl⟩]
       simp only[hrow]
       rfl
      | cons x0 xs =>
       obtain ⟨hb,hk⟩:=h.2 rfl
       simp only[Bool.and_eq_true,decide_eq_true_eq] at hb
       refine ⟨_,_,_,?_,hk⟩
       simp only[one,c6,if_pos htu,he,hz,hby,hzv,hxs]
       rw[if_pos ⟨hc.1.1,hc.1.2,hc.2,hb.1.1.2⟩]
       simp only[hrow]
       rw[if_pos ⟨hb.1.1.1.1,hb.1.1.1.2,hb.1.2,hb.2⟩]
       rfl
     ·exact h.elim
    ·rename_i k₀
     split at h
     ·rename_i ro z' rs hσ
      split at h
      ·obtain ⟨hb,hk⟩:=h
       simp only[Bool.and_eq_true,decide_eq_true_eq] at hb
       refine ⟨_,_,_,?_,hk⟩
       simp only[one,c6,if_pos htu,he,hz,hby,hzv,hxs]
       rw[if_pos ⟨hc.1.1,hc.1.2,hc.2,hb.1.1.2⟩]
       simp only[hσ]
       rw[if_pos ⟨hb.1.1.1,hb.1.2,hb.2⟩]
       rfl
      ·exact h.elim
     ·exact h.elim
    ·exact h.elim
   ·exact h.elim
  ·exact h.elim
 ·rename_i e htu he
  obtain ⟨d,σ',n',h1,h2⟩:=vD (t:=t) he h
  refine ⟨d,σ',n',?_,h2⟩
  unfold c6
  rw[if_neg (of_decide_eq_false htu)]
  exact h1
 ·exact h.elim
theorem DU {σ:Nat→Option aB} {n:Nat} {t:TypeId} {a b:D} {K:KN} (h:KV fB P σ n t a b K):∃ d σ' n',one n (wL P σ n t a b)=some (d,σ',n')∧K d σ' n':=by
 unfold KV at h
 split at h
 ·rename_i e he
  split at h
  ·rename_i z by_ zv k1 x k2 y hz hby hzv
   split at h
   ·rename_i hc
    simp only[Bool.and_eq_true,decide_eq_true_eq,beq_iff_eq] at hc
    obtain ⟨hb,hk⟩:=h
    simp only[Bool.and_eq_true,Bool.or_eq_true,decide_eq_true_eq] at hb
    refine ⟨_,_,_,?_,hk⟩
    simp only[one,wL,he,hz,hby,hzv]
    rw[if_pos ⟨hb.1.1.1,hb.1.1.2,hb.1.2,hb.2,hc.1.1,hc.1.2,hc.2⟩]
    rfl
   ·exact h.elim
  ·exact h.elim
 ·exact h.elim
theorem wP {σ:Nat→Option aB} {n:Nat} {t:TypeId} {x i v:D} {K:KN} (h:OD fB P σ n t x i v K):∃ d σ' n',one n ((BI P σ t x i v).map fun σ'=>(D.p (.v undef),σ'))=some (d,σ',n')∧K d σ' n':=by
 unfold OD at h
 split at h
 ·rename_i kt et hu
  split at h
  ·rename_i kd k m hk
   split at h
   ·rename_i ro es hkey hσ
    split at h
    ·obtain ⟨r,hr,hk'⟩:=h
     refine ⟨_,_,_,?_,hk'⟩
     simp only[one,BI,hu,hk,hkey,hσ,hr]
     rfl
    ·exact h.elim
   ·exact h.elim
  ·exact h.elim
 ·exact h.elim
theorem DW {σ:Nat→Option aB} {n:Nat} {b:Bool} {x:D} {K:KN} (h:K7 fB σ n b x K):∃ d σ' n',one n (wQ σ b x)=some (d,σ',n')∧K d σ' n':=by
 unfold K7 at h
 split at h
 ·rename_i k
  split at h
  ·rename_i s pos hσ
   rw[fK] at h
   by_cases hp:pos<s.size
   ·refine ⟨_,_,_,?_,h.1 (by simpa using hp)⟩
    simp only[one,wQ,hσ]
    rw[if_pos hp]
    rfl
   ·refine ⟨_,_,_,?_,h.2 (by simpa using hp)⟩
    simp only[one,wQ,hσ]
    rw[if_neg hp]
    rfl
  ·exact h.elim
 ·exact h.elim
theorem AN {σ:Nat→Option aB} {n:Nat} {f:D} {args:List D} {K:KN} (h:DH fB P E σ n f args K):∃ d σ' n',dY E σ n f args=some (d,σ',n')∧K d σ' n':=by
 unfold DH at h
 split at h
 ·rename_i fid a b hc
  split at h
  ·rename_i z g hE
   unfold PI at h
   split at h
   ·rename_i k hargs
    split at h
    ·rename_i ro z' rows hσ
     split at h
     ·rename_i hz
      obtain ⟨rows',h1,h2⟩:=h
      refine ⟨_,_,_,?_,h2⟩
      simp only[dY,hc,hE,AR,hargs,hσ,hz,h1,Option.map_some]
     ·exact h.elim
    ·exact h.elim
   ·exact h.elim
  ·rename_i z g hE
   unfold PC at h
   split at h
   ·rename_i r k rest hr hargs
    split at h
    ·rename_i ro z' rows ts hσ hts
     split at h
     ·rename_i hz
      obtain ⟨l,h1,h2⟩:=h
      rw[Bool.and_eq_true] at hz
      have hw:r.w=z:=of_decide_eq_true hz.2
      rw[hw] at h2
      refine ⟨_,_,_,?_,h2⟩
      simp only[dY,hc,hE,AP,hargs,hσ,hts,hz.1,h1,Option.map_some]
     ·exact h.elim
    ·exact h.elim
   ·exact h.elim
  ·rename_i z g hE
   unfold S5 at h
   split at h
   ·rename_i k hargs
    split at h
    ·rename_i ro z' rows hσ
     split at h
     ·rename_i hz
      obtain ⟨h1,h2⟩:=h
      refine ⟨_,_,_,?_,h2⟩
      rw[Bool.and_eq_true] at h1
      simp only[dY,hc,hE,vI,hargs,hσ,hz,h1.1,h1.2,Bool.and_true]
     ·exact h.elim
    ·exact h.elim
   ·rename_i t hargs
    split at h
    ·rename_i full rows hr
     obtain ⟨h1,h2⟩:=h
     refine ⟨_,_,_,?_,h2⟩
     simp only[dY,hc,hE,vI,hargs,hr,h1]
    ·exact h.elim
   ·exact h.elim
  ·rename_i z g hE
   unfold L9 at h
   split at h
   ·rename_i m hargs
    obtain ⟨h1,h2⟩:=h
    refine ⟨_,_,_,?_,h2⟩
    simp only[dY,hc,hE,AU,hargs,h1]
   ·exact h.elim
  ·rename_i g hE
   unfold PE at h
   split at h
   ·rename_i k i j rest hargs
    split at h
    ·rename_i ro ds hij hσ
     split at h
     ·rename_i cs ts hcs hts
      split at h
      ·rename_i sy s ss hsy hs
       split at h
       ·rename_i hw
        obtain ⟨y,h1,h2⟩:=h
        refine ⟨_,_,_,?_,h2⟩
        have h1':g (.agg cs::ts)=some (.aR (.agg (sy.enc y.1)::Sh.dQ (s::ss) y.2)):=h1
        have hl:decide ((sy.enc y.1).length=cs.length)=true:=by rw[Sy.bD];exact hw
        simp only[dY,hc,hE,AQ,hargs,hij,hσ,hcs,hts,h1',hl,wX]
       ·exact h.elim
      ·exact h.elim
     ·exact h.elim
    ·exact h.elim
   ·exact h.elim
  ·rename_i vt g hE
   unfold O6 at h
   split at h
   ·rename_i ins rows kk σ1 hin
    split at h
    ·rename_i v vs s ss hv hs
     obtain ⟨y,h1,h2⟩:=h
     split at h2
     ·rename_i hl
      refine ⟨_,_,_,?_,h2⟩
      have h1':g ins=some (.aR (Sh.dQ (v::(vs++s::ss)) y)):=by
       rw[h1];cases vs<;>rfl
      simp only[dY,hc,hE,pU,hin,h1',hl]
     ·exact h2.elim
    ·exact h.elim
   ·exact h.elim
  ·rename_i g hE
   unfold PL at h
   split at h
   ·rename_i k cs ts σ1 hin
    split at h
    ·rename_i sy s ss hsy hs
     split at h
     ·rename_i hw
      obtain ⟨y,h1,h2⟩:=h
      refine ⟨_,_,_,?_,h2⟩
      have h1':g (.agg cs::ts)=some (.aR (.agg (sy.enc y.1)::Sh.dQ (s::ss) y.2)):=h1
      have hl:Nat.beq (sy.enc y.1).length cs.length=true:=by rw[Sy.bD];exact hw
      simp only[dY,hc,hE,AS,hin,h1',hl,wX]
     ·exact h.elim
    ·exact h.elim
   ·exact h.elim
  ·rename_i g hE
   unfold PB at h
   split at h
   ·rename_i ps σ1 hin
    split at h
    ·rename_i ts s hts hs
     obtain ⟨y,h1,h2⟩:=h
     refine ⟨_,_,_,?_,h2⟩
     simp only[dY,hc,hE,AO,hin,hts,h1,Option.map_some]
    ·exact h.elim
   ·exact h.elim
  ·rename_i c g hE
   unfold PH at h
   split at h
   ·rename_i sy ts hsh hts
    split at h
    ·rename_i z hz
     obtain ⟨y,hg,h⟩:=h
     split at h
     ·rename_i fl rows hcc
      obtain ⟨h1,h2⟩:=h
      refine ⟨_,_,_,?_,h2⟩
      rw[Bool.and_eq_true] at h1
      have hg':g ts=some (.agg (sy.enc y)):=hg
      cases rows with
      | nil=>cases h1.1
      | cons r rows =>
       have hr:r.length=z:=by
        have:=List.all_eq_true.1 h1.2 r List.mem_cons_self
        simpa using this
       subst hr
       simp only[dY,hc,hE,hts,hg',hcc]
     ·exact h.elim
    ·exact h.elim
   ·exact h.elim
  ·split at h
   ·rename_i g r ts hE hr hts
    obtain ⟨l,h1,h2⟩:=h
    rw[fK] at h2
    cases l with
    | nil =>
     refine ⟨_,_,_,?_,h2.1 rfl⟩
     simp only[dY,hc,hE,hts,h1]
     rfl
    | cons x l =>
     refine ⟨_,_,_,?_,h2.2 rfl⟩
     simp only[dY,hc,hE,hts,h1,List.map_cons,Sy.bD]
   ·rename_i g r ts hE hr hts
    obtain ⟨l,h1,h2⟩:=h
    rw[fK] at h2
    have hm:(a++args++b).mapM (c0 σ 4)=some ts:=by rw[dG hts];exact tA σ 4 ts
    cases l with
    | nil =>
     refine ⟨_,_,_,?_,h2.1 rfl⟩
     simp only[dY,hc,hE,hm,h1]
     rfl
    | cons x l =>
     obtain ⟨h3,h4⟩:=h2.2 rfl
     refine ⟨_,_,_,?_,h4⟩
     rw[List.map_cons] at h3
     simp only[dY,hc,hE,hm,h1,List.map_cons,Sy.bD,h3]
   ·exact h.elim
 ·exact h.elim
theorem C7 {σ:Nat→Option aB} {n:Nat} {t:TypeId} {d s:D} {K:KN} (h:JU fB P σ n t d s K):∃ d' σ' n',one n (wA P σ t d s)=some (d',σ',n')∧K d' σ' n':=by
 unfold JU at h
 split at h
 case h_2=>exact h.elim
 rename_i e he
 split at h
 case h_2=>exact h.elim
 rename_i z xs k hz hx
 split at h
 case h_2=>exact h.elim
 rename_i ro z' rs hσ
 split at h
 case h_2=>exact h.elim
 rename_i hzz
 obtain ⟨hb,hk⟩:=h
 simp only[Bool.and_eq_true,decide_eq_true_eq] at hb
 refine ⟨_,_,_,?_,hk⟩
 simp only[one,wA,he,hz,hx,hσ]
 rw[if_pos ⟨of_decide_eq_true hzz,hb.1.1,hb.1.2,hb.2⟩]
 rfl
theorem LB {σ:Nat→Option aB} {s:Nat→D} {n:Nat} {op:Op} {K:KN} (h:UL fB P E σ s n op K):∃ d σ' n',nv P E σ s n op=some (d,σ',n')∧K d σ' n':=by
 unfold UL at h
 split at h
 ·exact B5 h
 ·exact DU h
 ·exact wP h
 ·exact wP h
 ·exact DW h
 ·rename_i c
  split at h
  ·rename_i x y t u hc ha hat
   obtain ⟨d,σ',n',h1,h2⟩:=xR h
   refine ⟨d,σ',n',?_,h2⟩
   simp only[nv,hc,ha,hat]
   exact h1
  ·rename_i x y t u hc ha hat
   obtain ⟨d,σ',n',h1,h2⟩:=C7 h
   refine ⟨d,σ',n',?_,h2⟩
   simp only[nv,hc,ha,hat]
   exact h1
  ·rename_i f hc
   obtain ⟨d,σ',n',h1,h2⟩:=AN h
   refine ⟨d,σ',n',?_,h2⟩
   simp only[nv,hc,z6,h1]
  ·exact h.elim
 ·exact wS h
end
def iH (σ:Nat→Option aB) (n:Nat) (σ':Nat→Option aB) (n':Nat):Prop:=n≤n'∧∀ k x,k<n→σ k=some x→bS x=false→σ' k=some x
theorem iH.refl (σ:Nat→Option aB) (n:Nat):iH σ n σ n:=⟨Nat.le_refl _,fun _ _ _ h _=>h⟩
theorem iH.trans {σ σ' σ'':Nat→Option aB} {n n' n'':Nat} (h:iH σ n σ' n') (h':iH σ' n' σ'' n''):iH σ n σ'' n'' :=
 ⟨Nat.le_trans h.1 h'.1,fun k x hk hx hw=>h'.2 k x (Nat.lt_of_lt_of_le hk h.1) (h.2 k x hk hx hw) hw⟩
theorem iH.new {σ:Nat→Option aB} {n n':Nat} (x:Option aB) (h:n≤n'):iH σ n (aQ σ n x) n':=⟨h,fun k y hk hy _=>by rw[aH _ _ (by omega)];exact hy⟩
theorem iH.same {σ:Nat→Option aB} {n n':Nat} (h:n≤n'):iH σ n σ n':=⟨h,fun _ _ _ h _=>h⟩
theorem iH.set {σ:Nat→Option aB} {n n' m:Nat} {x₀:aB} (x:Option aB) (h:n≤n') (hm:σ m=some x₀) (hw:bS x₀=true):iH σ n (aQ σ m x) n':=⟨h,fun k y hk hy hy'=>by
 by_cases e:k=m
 ·subst e;rw[hm] at hy;cases hy;rw[hw] at hy';cases hy'
 ·rw[aH _ _ e];exact hy⟩
def cM (E:Env):Prop:=∀ f g,E f≠some (.heap g)
section
variable {P : Program} {E : Env}
theorem bQ {n:Nat} {x:Option (D×(Nat→Option aB))} {d:D} {σ':Nat→Option aB} {n':Nat} (h:one n x=some (d,σ',n')):x=some (d,σ')∧n'=n+1:=by
 unfold one at h
 cases x with
 | none=>cases h
 | some y=>obtain ⟨a,b⟩:=y;simp only[Option.map_some,Option.some.injEq,Prod.mk.injEq] at h;obtain ⟨rfl,rfl,rfl⟩:=h;exact ⟨rfl,rfl⟩
theorem iS:∀ {ps ps':List (Nat×D)} {σ σ1:Nat→Option aB} {n n':Nat},n≤n'→iB σ ps=some (ps',σ1)→iH σ n σ1 n'
 | [],ps',σ,σ1,n,n',hn,h=>by
  simp only[iB] at h
  cases h
  exact .same hn
 | p::ps,ps',σ,σ1,n,n',hn,h=>by
  obtain ⟨pi,pd⟩:=p
  unfold iB at h
  split at h
  ·rename_i e;cases e
  ·rename_i i k r e
   cases e
   split at h
   ·rename_i z rows hk
    simp only[Option.map_eq_some_iff,Prod.mk.injEq] at h
    obtain ⟨⟨_,_⟩,hg,_,rfl⟩:=h
    exact (iH.set (n':=n) none (Nat.le_refl _) hk rfl).trans (iS hn hg)
   ·cases h
  ·rename_i i d r _ e
   cases e
   simp only[Option.map_eq_some_iff,Prod.mk.injEq] at h
   obtain ⟨⟨_,_⟩,hg,_,rfl⟩:=h
   exact iS hn hg
theorem wZ {k:Nat} {cs:List T}:∀ {ks:List Nat} {σ:Nat→Option aB} {rows:List (List T)},iY σ ks=some rows→∃ rows',iY (aQ σ k (some (.rows false [cs.map .p]))) ks=some rows'
 | [],σ,rows,_=>⟨[],rfl⟩
 | k'::ks,σ,rows,h=>by
  unfold iY at h
  split at h
  ·rename_i ds hσ
   split at h
   ·rename_i row rs hds hrs
    obtain ⟨rows',hr'⟩:=wZ (k:=k) (cs:=cs) hrs
    by_cases e:k'=k
    ·subst e
     exact ⟨cs.map (T.canon 4)::rows',by simp only[iY,fQ,r6,hr']⟩
    ·exact ⟨row.map (T.canon 4)::rows',by simp only[iY,aH _ _ e,hσ,hds,hr']⟩
   ·cases h
  ·cases h
theorem F7:∀ {kk:List Nat} {σ:Nat→Option aB} {n:Nat} {ts:List T} {rows:List (List T)},iY σ kk=some rows→iH σ n (rF σ kk ts) n
 | [],σ,n,ts,rows,_=>.same (Nat.le_refl _)
 | k::ks,σ,n,ts,rows,h=>by
  unfold rF
  split
  ·rename_i k' ks' cs ts' e
   cases e
   unfold iY at h
   split at h
   ·rename_i ds hσ
    split at h
    ·rename_i row rs hds hrs
     have hrs':∃ rows',iY (aQ σ k (some (.rows false [cs.map .p]))) ks=some rows':=wZ hrs
     obtain ⟨rows',hrs'⟩:=hrs'
     exact (iH.set (n':=n) _ (Nat.le_refl _) hσ rfl).trans (F7 hrs')
    ·cases h
   ·cases h
  ·exact .same (Nat.le_refl _)
theorem GY {f:FuncId} {args:List D} {σ σ1:Nat→Option aB} {n:Nat} {ins:List T} {rows:List (List T)} {kk:List Nat} (h:sJ f args σ=some (ins,rows,kk,σ1)):iH σ n σ1 n∧iY σ1 kk=some rows:=by
 unfold sJ at h
 split at h
 ·rename_i ps σ2 ks hg hp
  split at h
  ·split at h
   ·rename_i rows' vals hr hs
    simp only[Option.some.injEq,Prod.mk.injEq] at h
    obtain ⟨_,rfl,rfl,rfl⟩:=h
    exact ⟨iS (Nat.le_refl _) hg,hr⟩
   ·cases h
  ·cases h
 ·cases h
theorem LV {args:List D} {σ σ1:Nat→Option aB} {n k:Nat} {cs ts:List T} (h:F1 args σ=some (k,cs,ts,σ1)):iH σ n σ1 n∧∃ row,σ1 k=some (.rows false [row]):=by
 unfold F1 at h
 split at h
 ·split at h
  ·rename_i ps σ2 hg
   split at h
   ·rename_i ds ts' hσ hts
    split at h
    ·simp only[Option.some.injEq,Prod.mk.injEq] at h
     obtain ⟨rfl,_,_,rfl⟩:=h
     exact ⟨iS (Nat.le_refl _) hg,_,hσ⟩
    ·cases h
   ·cases h
  ·cases h
 ·cases h
theorem JR (hh:cM E) {σ:Nat→Option aB} {n:Nat} {c:D} {args:List D} {d:D} {σ':Nat→Option aB} {n':Nat} (h:dY E σ n c args=some (d,σ',n')):iH σ n σ' n':=by
 unfold dY at h
 split at h
 ·split at h
  ·split at h
   ·split at h
    ·split at h
     ·cases h;exact .same (by omega)
     ·cases h;exact .new _ (by omega)
    ·cases h
   ·split at h
    ·split at h
     ·split at h
      ·cases h;exact .new _ (by omega)
      ·cases h
     ·cases h
    ·cases h
  ·split at h
   ·split at h
    ·cases h;exact .same (by omega)
    ·split at h
     ·cases h;exact .new _ (by omega)
     ·cases h
    ·cases h
   ·cases h
  ·rename_i hg;exact absurd hg (hh _ _)
  ·unfold AR at h
   split at h
   ·split at h
    ·rename_i hσ
     split at h
     ·simp only[Option.map_eq_some_iff,Prod.mk.injEq] at h
      obtain ⟨_,_,_,rfl,rfl⟩:=h
      exact .set _ (by omega) hσ rfl
     ·cases h
    ·cases h
   ·cases h
  ·unfold AP at h
   split at h
   ·split at h
    ·rename_i hσ
     split at h
     ·simp only[Option.map_eq_some_iff,Prod.mk.injEq] at h
      obtain ⟨_,_,_,rfl,rfl⟩:=h
      exact (iH.set (n':=n) none (Nat.le_refl _) hσ rfl).trans (.new _ (by omega))
     ·cases h
    ·cases h
   ·cases h
  ·unfold vI at h
   split at h
   ·split at h
    ·split at h
     ·simp only[Option.some.injEq,Prod.mk.injEq] at h
      obtain ⟨_,rfl,rfl⟩:=h
      exact .new _ (by omega)
     ·cases h
    ·cases h
   ·split at h
    ·split at h
     ·simp only[Option.some.injEq,Prod.mk.injEq] at h
      obtain ⟨_,rfl,rfl⟩:=h
      exact .new _ (by omega)
     ·cases h
    ·cases h
   ·cases h
  ·unfold AU at h
   split at h
   ·split at h
    ·simp only[Option.some.injEq,Prod.mk.injEq] at h
     obtain ⟨_,rfl,rfl⟩:=h
     exact .new _ (by omega)
    ·cases h
   ·cases h
  ·unfold AQ at h
   split at h
   ·split at h
    ·rename_i hσ
     split at h
     ·split at h
      ·split at h
       ·simp only[Option.some.injEq,Prod.mk.injEq] at h
        obtain ⟨_,rfl,rfl⟩:=h
        exact .set _ (by omega) hσ rfl
       ·cases h
      ·cases h
     ·cases h
    ·cases h
   ·cases h
  ·rename_i vs g _
   unfold pU at h
   split at h
   ·rename_i ins rows kk σ1 hin
    split at h
    ·split at h
     ·simp only[Option.some.injEq,Prod.mk.injEq] at h
      obtain ⟨_,rfl,rfl⟩:=h
      obtain ⟨hg,hr⟩:=GY (n:=n) hin
      exact (hg.trans (F7 hr)).trans (.same (by omega))
     ·cases h
    ·cases h
   ·cases h
  ·rename_i g _
   unfold AS at h
   split at h
   ·rename_i k cs ts σ1 hin
    split at h
    ·split at h
     ·simp only[Option.some.injEq,Prod.mk.injEq] at h
      obtain ⟨_,rfl,rfl⟩:=h
      obtain ⟨hg,row,hr⟩:=LV (n:=n) hin
      exact hg.trans (.set _ (by omega) hr rfl)
     ·cases h
    ·cases h
   ·cases h
  ·rename_i g _
   unfold AO at h
   split at h
   ·rename_i ps σ1 hin
    split at h
    ·simp only[Option.map_eq_some_iff,Prod.mk.injEq] at h
     obtain ⟨_,_,_,rfl,rfl⟩:=h
     exact (iS (n:=n) (Nat.le_refl _) hin).trans (.same (by omega))
    ·cases h
   ·cases h
  ·split at h
   ·split at h
    ·split at h
     ·simp only[Option.some.injEq,Prod.mk.injEq] at h
      obtain ⟨_,rfl,rfl⟩:=h
      exact .new _ (by omega)
     ·cases h
    ·cases h
   ·cases h
  ·cases h
 ·cases h
theorem TM (hh:cM E) {σ:Nat→Option aB} {s:Nat→D} {n:Nat} {op:Op} {d:D} {σ':Nat→Option aB} {n':Nat} (h:nv P E σ s n op=some (d,σ',n')):iH σ n σ' n':=by
 unfold nv at h
 split at h
 ·obtain ⟨h1,rfl⟩:=bQ h
  cases hz:tz? P _ with
  | none=>rw[hz] at h1;cases h1
  | some z =>
   rw[hz] at h1
   simp only[Option.bind_some,Option.map_eq_some_iff,Prod.mk.injEq] at h1
   obtain ⟨b,_,rfl,rfl⟩:=h1
   exact .new _ (by omega)
 ·obtain ⟨h1,rfl⟩:=bQ h
  simp only[Option.map_eq_some_iff,Prod.mk.injEq] at h1
  obtain ⟨b,_,rfl,rfl⟩:=h1
  exact .new _ (by omega)
 ·obtain ⟨h1,rfl⟩:=bQ h
  simp only[Option.map_eq_some_iff,Prod.mk.injEq] at h1
  obtain ⟨σ₂,h2,rfl,rfl⟩:=h1
  unfold dX at h2
  split at h2
  ·split at h2
   ·rename_i hσ hz
    split at h2
    ·split at h2
     ·cases h2;exact .set _ (by omega) hσ rfl
     ·cases h2
    ·cases h2
   ·rename_i hσ hz
    split at h2
    ·split at h2
     ·cases h2;exact .set _ (by omega) hσ rfl
     ·cases h2
    ·cases h2
   ·cases h2
  ·cases h2
 ·split at h
  ·rename_i r hr
   obtain ⟨h1,rfl⟩:=bQ h
   cases h1
   unfold FT at hr
   split at hr
   ·split at hr
    ·cases hr;exact .new _ (by omega)
    ·cases hr
   ·cases hr;exact .new _ (by omega)
   ·cases hr;exact .new _ (by omega)
   ·cases hr
  ·obtain ⟨h1,rfl⟩:=bQ h
   unfold D3 at h1
   split at h1
   ·cases h1;exact .new _ (by omega)
   ·cases h1
 ·split at h
  ·obtain ⟨h1,rfl⟩:=bQ h
   cases h1;exact .new _ (by omega)
  ·split at h
   ·obtain ⟨h1,rfl⟩:=bQ h
    cases h1;exact .new _ (by omega)
   ·cases h
 ·obtain ⟨h1,rfl⟩:=bQ h
  unfold wL at h1
  split at h1
  ·split at h1
   ·split at h1
    ·cases h1;exact .new _ (by omega)
    ·cases h1
   ·cases h1
  ·cases h1
 ·split at h
  ·rename_i hgv
   split at h
   ·obtain ⟨h1,rfl⟩:=bQ h
    cases h1;exact (iS (Nat.le_refl _) hgv).trans (.new _ (by omega))
   ·cases h
  ·cases h
 ·obtain ⟨h1,rfl⟩:=bQ h
  simp only[Option.map_eq_some_iff,Prod.mk.injEq] at h1
  obtain ⟨σ₂,h2,rfl,rfl⟩:=h1
  unfold BI at h2
  split at h2
  ·split at h2
   ·split at h2
    ·rename_i hσ
     split at h2
     ·cases h2;exact .set _ (by omega) hσ rfl
     ·cases h2
    ·cases h2
   ·cases h2
  ·cases h2
 ·obtain ⟨h1,rfl⟩:=bQ h
  simp only[Option.map_eq_some_iff,Prod.mk.injEq] at h1
  obtain ⟨σ₂,h2,rfl,rfl⟩:=h1
  unfold BI at h2
  split at h2
  ·split at h2
   ·split at h2
    ·rename_i hσ
     split at h2
     ·cases h2;exact .set _ (by omega) hσ rfl
     ·cases h2
    ·cases h2
   ·cases h2
  ·cases h2
 ·obtain ⟨h1,rfl⟩:=bQ h
  unfold FN at h1
  split at h1
  ·split at h1
   ·split at h1
    ·rename_i hσ
     split at h1
     ·cases h1;exact .set _ (by omega) hσ rfl
     ·cases h1;exact .set _ (by omega) hσ rfl
     ·cases h1
    ·cases h1
   ·cases h1
  ·cases h1
 ·obtain ⟨h1,rfl⟩:=bQ h
  simp only[Option.map_eq_some_iff,Prod.mk.injEq] at h1
  obtain ⟨σ₂,h2,rfl,rfl⟩:=h1
  unfold FU at h2
  split at h2
  ·split at h2
   ·rename_i hσ
    split at h2
    ·cases h2;exact .set _ (by omega) hσ rfl
    ·cases h2
   ·cases h2
  ·cases h2
 ·obtain ⟨h1,rfl⟩:=bQ h
  simp only[Option.map_eq_some_iff,Prod.mk.injEq] at h1
  obtain ⟨_,_,_,rfl⟩:=h1
  exact .same (by omega)
 ·obtain ⟨h1,rfl⟩:=bQ h
  unfold wQ at h1
  split at h1
  ·split at h1
   ·rename_i hσ
    split at h1
    ·cases h1;exact .set _ (by omega) hσ rfl
    ·cases h1;exact .same (by omega)
   ·cases h1
  ·cases h1
 ·split at h
  ·obtain ⟨h1,rfl⟩:=bQ h
   unfold c6 at h1
   split at h1
   ·split at h1
    ·split at h1
     ·split at h1
      ·split at h1
       ·split at h1
        ·split at h1
         ·cases h1;exact .new _ (by omega)
         ·cases h1
        ·split at h1
         ·cases h1;exact .same (by omega)
         ·split at h1
          ·cases h1;exact .new _ (by omega)
          ·cases h1
        ·cases h1
       ·split at h1
        ·rename_i hσ
         split at h1
         ·cases h1
          exact (iH.set (n':=n) none (Nat.le_refl _) hσ rfl).trans (.new _ (by omega))
         ·cases h1
        ·cases h1
       ·cases h1
      ·cases h1
     ·cases h1
    ·cases h1
   ·unfold jF at h1
    split at h1
    ·split at h1
     ·split at h1
      ·split at h1
       ·split at h1
        ·rename_i hσ
         split at h1
         ·cases h1
          exact (iH.set (n':=n) none (Nat.le_refl _) hσ rfl).trans (.new _ (by omega))
         ·cases h1
        ·cases h1
       ·split at h1
        ·split at h1
         ·cases h1;exact .same (by omega)
         ·split at h1
          ·cases h1;exact .same (by omega)
          ·cases h1
        ·cases h1
       ·cases h1
      ·cases h1
     ·cases h1
    ·cases h1
  ·unfold z6 at h
   split at h
   ·rename_i r hcf
    cases h
    exact JR hh hcf
   ·simp only[Option.map_eq_some_iff,Prod.mk.injEq] at h
    obtain ⟨_,_,_,rfl,rfl⟩:=h
    exact .same (Nat.le_refl _)
  ·obtain ⟨h1,rfl⟩:=bQ h
   unfold wA at h1
   split at h1
   case h_2=>cases h1
   split at h1
   case h_2=>cases h1
   split at h1
   case h_2=>cases h1
   rename_i hσ
   split at h1
   ·cases h1;exact .set _ (by omega) hσ rfl
   ·cases h1
  ·cases h
 ·cases h
end
section
variable (C : Combs) (P : Program) (E : Env) (nt : Nat)
def splitK (ops:Array Oper) (o:Oper) (st:St) (K:St→Prop):Prop:=match o.guard with
 | none=>K st
 | some (j,_)=>match (ops[j]?).bind (·.dst) with
  | none=>K st
  | some t=>match st.s t with
   | .p (.v (.bool b))=>aC b (K ⟨aQ st.s t (.p (.v (.bool true))),st.σ,st.n⟩) (K ⟨aQ st.s t (.p (.v (.bool false))),st.σ,st.n⟩)
   | _=>K st
def pD (st:St) (dst:Option Tmp) (d:D) (σ':Nat→Option aB) (n':Nat) (K:St→Prop):Prop:=match hH nt st dst d σ' n' with
 | some st'=>K st'
 | none=>C.bad 201
def mK (ops:Array Oper) (o:Oper) (st:St) (K:St→Prop):Prop :=
 match bW ops st.s o with
 | some true=>match bB E o.op with
  | true=>UP C P E st.n st.σ st.s (aN true st.s) o.op fun d=>pD C nt st o.dst d st.σ st.n K
  | false=>UL C P E st.σ (aN true st.s) st.n o.op fun d σ' n'=>pD C nt st o.dst d σ' n' K
 | some false=>pD C nt st o.dst (.p (.v undef)) st.σ st.n K
 | none=>C.bad 202
end
def UA (A:Nat→Bool) (st st':St):Prop:=∀ i,A i=false→st'.s i=st.s i
structure Fr (A:Nat→Bool) (st st':St):Prop where
 s:UA A st st'
 b:iH st.σ st.n st'.σ st'.n
theorem Fr.refl (A:Nat→Bool) (st:St):Fr A st st:=⟨fun _ _=>rfl,iH.refl _ _⟩
theorem Fr.trans {A:Nat→Bool} {st st' st'':St} (h:Fr A st st') (h':Fr A st' st''):Fr A st st'':=⟨fun i hi=>(h'.s i hi).trans (h.s i hi),h.b.trans h'.b⟩
theorem Fr.mono {A B:Nat→Bool} {st st':St} (h:Fr A st st') (hab:∀ i,B i=false→A i=false):Fr B st st':=⟨fun i hi=>h.s i (hab i hi),h.b⟩
section
variable {P : Program} {E : Env} {nt : Nat} {ops : Array Oper}
theorem iF {o:Oper} {st:St} {K:St→Prop} (h:splitK ops o st K):K st:=by
 unfold splitK at h
 split at h
 ·exact h
 ·split at h
  ·exact h
  ·rename_i t ht
   split at h
   ·rename_i b hb
    have key:∀ c,b=c→(⟨aQ st.s t (.p (.v (.bool c))),st.σ,st.n⟩:St)=st:=by
     intro c hc
     subst hc
     have:aQ st.s t (.p (.v (.bool b)))=st.s:=by
      funext i
      by_cases e:i=t
      ·subst e;rw[fQ,hb]
      ·rw[aH _ _ e]
     rw[this]
    cases b with
    | true=>rw[←key true rfl];exact h
    | false=>rw[←key false rfl];exact h
   ·exact h
theorem cY {st:St} {dst:Option Tmp} {d:D} {σ':Nat→Option aB} {n':Nat} {K:St→Prop} (h:pD fB nt st dst d σ' n' K):∃ st',hH nt st dst d σ' n'=some st'∧K st':=by
 unfold pD at h
 split at h
 ·exact ⟨_,‹_›,h⟩
 ·exact h.elim
theorem dA {o:Oper} {st:St} {K:St→Prop} (h:mK fB P E nt ops o st K):∃ st',bM P E nt ops o st=some st'∧K st':=by
 unfold mK at h
 unfold bM
 split at h
 ·rename_i hg
  split at h
  ·rename_i hq
   obtain ⟨d,h1,h2⟩:=LR h
   obtain ⟨st',h3,h4⟩:=cY h2
   exact ⟨st',by simp only[hq,if_true,cK,hg,h1,h3],h4⟩
  ·rename_i hq
   obtain ⟨d,σ',n',h1,h2⟩:=LB h
   obtain ⟨st',h3,h4⟩:=cY h2
   exact ⟨st',by simp only[hq,Bool.false_eq_true,if_false,hg,h1,h3],h4⟩
 ·rename_i hg
  obtain ⟨st',h3,h4⟩:=cY h
  refine ⟨st',?_,h4⟩
  by_cases hq:bB E o.op=true
  ·simp only[hq,if_true,cK,hg,h3]
  ·simp only[hq,Bool.false_eq_true,if_false,hg,h3]
 ·exact h.elim
theorem fG {st st':St} {dst:Option Tmp} {d:D} {σ':Nat→Option aB} {n':Nat} {A:Nat→Bool} (h:hH nt st dst d σ' n'=some st') (hA:∀ t,dst=some t→A t=true) (hf:iH st.σ st.n σ' n'):Fr A st st':=by
 obtain ⟨_,rfl⟩:=iE h
 refine ⟨fun i hi=>?_,hf⟩
 unfold hJ
 cases dst with
 | none=>rfl
 | some t=>exact aH _ _ fun e=>by subst e;rw[hA _ rfl] at hi;cases hi
theorem eE (hh:cM E) {o:Oper} {st st':St} {A:Nat→Bool} (h:bM P E nt ops o st=some st') (hA:∀ t,o.dst=some t→A t=true):Fr A st st':=by
 unfold bM at h
 split at h
 ·split at h
  ·exact fG h hA (iH.refl _ _)
  ·cases h
 ·split at h
  ·split at h
   ·rename_i d σ' n' hn
    exact fG h hA (TM hh hn)
   ·cases h
  ·exact fG h hA (iH.refl _ _)
  ·cases h
end
end Go.Pv
