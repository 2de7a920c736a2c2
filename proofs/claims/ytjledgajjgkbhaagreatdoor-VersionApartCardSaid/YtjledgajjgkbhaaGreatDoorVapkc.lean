/-
  The symbolic executor, part c: operations that write or make memory; a whole region.
-/
import Derived.Test.YtjledgajjgkbhaaGreatDoorVapkb
set_option linter.defProp false
set_option linter.unusedSimpArgs false
namespace Go.Pv
open Go Go.RowKit
abbrev KN:=D→(Nat→Option bB)→Nat→Prop
section
variable (C : Combs) (P : Program) (E : Env)
def A63 (c:Nat) (x:Option (D×(Nat→Option bB)×Nat)) (K:KN):Prop:=match x with
 | some (d,σ',n')=>K d σ' n'
 | none=>C.bad c
def AKV (σ:Nat→Option bB) (n:Nat) (t:TypeId) (a v:D) (K:KN):Prop :=
 match a with
 | .ptr k i j=>match σ k with
  | some (.arr ro za rows)=>match ro,tsz? P t,gZ v.cells with
   | false,some z,some ts=>match decide (0<z)&&ts.length == z&&ts.all T.leaf with
    | true=>C.row rows i fun r=>C.yJ (decide (j+z≤r.length)) (K (.p (.v undef)) (bY σ k (some (.arr false za (rows.set i (bP r j ts))))) (n+1))
    | false=>C.bad 101
   | _,_,_=>C.bad 102
  | _=>A63 C 103 (one n ((iD P σ t a v).map fun σ'=>(.p (.v undef),σ'))) K
 | _=>C.bad 104
def BFO (a b:List (List T)):List (List T):=a++b
def M8 (σ:Nat→Option bB) (n:Nat) (u e:TypeId) (s x:D) (K:KN):Prop :=
 match P.underlying u,x with
 | some .string,.p (.v (.string b))=>match tsz? P e,tby? P e,tz? P e,s with
  | some z,some by_,some zv,.own k₀=>match decide (z=1)&&zv.cells.size == 1&&zv.cells.all Value.oneCell',σ k₀ with
   | true,some (.arr false z' rs)=>C.yJ (decide (z'=1)&&decide ((rs.length+b.size)*by_≤140737488355328)&&decide (rs.length+b.size≤140737488355328)) (K (.own n) (bY (bY σ k₀ none) n (some (.arr false 1 (rs++dD b)))) (n+1))
   | _,_=>C.bad 118
  | _,_,_,_=>C.bad 119
 | _,_=>C.bad 117
def VN (σ:Nat→Option bB) (n:Nat) (t u:TypeId) (s x:D) (K:KN):Prop :=
 match decide (t=u),l6 P t with
 | true,some e =>
  match tsz? P e,tby? P e,tz? P e,H8 σ x with
  | some z,some by_,some zv,some xs =>
   match decide (0<z)&&zv.cells.size == z&&zv.cells.all Value.oneCell' with
   | true=>match s with
    | .p st=>match fK st with
     | some (full,[])=>C.yJ (fE z xs&&full&&decide (xs.length*by_≤140737488355328)&&decide (xs.length≤140737488355328)) (K (.own n) (bY σ n (some (.arr false z xs))) (n+1))
     | some (full,r::rows)=>aD xs.isEmpty (K (.p st) σ (n+1)) (C.yJ (full&&fE z (r::rows)&&fE z xs&&decide (((r::rows).length+xs.length)*by_≤140737488355328)&&decide ((r::rows).length+xs.length≤140737488355328)) (K (.own n) (bY σ n (some (.arr false z (BFO (r::rows) xs)))) (n+1)))
     | none=>C.bad 111
    | .own k₀=>match σ k₀ with
     | some (.arr ro z' rs)=>match ro with
      | false=>C.yJ (decide (z'=z)&&fE z xs&&decide ((rs.length+xs.length)*by_≤140737488355328)&&decide (rs.length+xs.length≤140737488355328)) (K (.own n) (bY (bY σ k₀ none) n (some (.arr false z (rs++xs)))) (n+1))
      | true=>C.bad 112
     | _=>C.bad 113
    | _=>C.bad 114
   | false=>C.bad 115
  | _,_,_,_=>C.bad 116
 | false,some e=>M8 C P σ n u e s x K
 | _,_=>C.bad 117
def AZ7 (σ:Nat→Option bB) (n:Nat) (t:TypeId) (len cap:D) (K:KN):Prop :=
 match l6 P t with
 | some e =>
  match tsz? P e,tby? P e,tz? P e,len,cap with
  | some z,some by_,some zv,.p (.v (.int _ a)),.p (.v (.int _ b)) =>
   match decide (0<z)&&zv.cells.size == z&&zv.cells.all Value.oneCell' with
   | true=>C.yJ ((decide (a=b)||decide (a=0))&&decide (0≤b)&&decide (b*by_≤140737488355328)&&decide (b≤140737488355328)) (K (.own n) (bY σ n (some (.arr false z (List.replicate a.toNat (zv.cells.toList.map .v))))) (n+1))
   | false=>C.bad 121
  | _,_,_,_,_=>C.bad 122
 | none=>C.bad 123
def A56 (σ:Nat→Option bB) (n:Nat) (t:TypeId) (x i v:D) (K:KN):Prop :=
 match P.underlying t with
 | some (.map kt _) =>
  match vI P kt,i,x with
  | some kd,.p (.v k),.map m =>
   match CM kd k,σ m with
   | true,some (.map ro es)=>match ro with
    | false=>C.opt _ (findD kd k es 0) fun r=>K (.p (.v undef)) (bY σ m (some (.map false (fN es r k v)))) (n+1)
    | true=>C.bad 131
   | _,_=>C.bad 132
  | _,_,_=>C.bad 133
 | _=>C.bad 134
def A0I (σ:Nat→Option bB) (n:Nat) (isString:Bool) (d:D) (K:KN):Prop :=
 match isString,d with
 | true,.it k=>match σ k with
  | some (.kT s pos)=>aD (decide (pos<s.size)) (K (.p (.v (.tuple #[.bool true,.int .i64 pos,.int .i32 (Utf8.decode s pos).1]))) (bY σ k (some (.kT s (pos+(Utf8.decode s pos).2)))) (n+1)) (K (.p (.v (.tuple #[.bool false]))) σ (n+1))
  | _=>C.bad 141
 | _,_=>C.bad 142
def AW9 (fid:FuncId):Option Sy:=match P.funcs[fid]? with
 | some fn=>match fn.resultTypes.toList with
  | [t]=>match l6 P t with
   | some e=>YQ P e
   | none=>none
  | _=>none
 | none=>none
def A8I (z:Nat) (g:List (List T)→Option (List (List T))) (σ:Nat→Option bB) (n:Nat) (args:List D) (K:KN):Prop :=
 match args with
 | [.own k]=>match σ k with
  | some (.arr ro z' rows)=>match ro,decide (z'=z) with
   | false,true=>C.opt (List (List T)) (g rows) fun rows'=>K (.p (.v (.tuple #[]))) (bY σ k (some (.arr false z rows'))) (n+1)
   | _,_=>C.bad 155
  | _=>C.bad 156
 | _=>C.bad 157
def A8A (z:Nat) (g:List (List T)→List T→Option (List (List T))) (o:Option Sy) (σ:Nat→Option bB) (n:Nat) (args:List D) (K:KN):Prop :=
 match o,args with
 | some r,.own k::rest=>match σ k,gZ rest with
  | some (.arr ro z' rows),some ts=>match ro,decide (z'=z)&&decide (r.w=z) with
   | false,true=>C.fresh r (g rows ts) fun l=>K (.own n) (bY (bY σ k none) n (some (.arr false r.w (l.map r.enc)))) (n+1)
   | _,_=>C.bad 165
  | _,_=>C.bad 166
 | _,_=>C.bad 167
def BEF (z y:Nat) (σ:Nat→Option bB) (n:Nat) (args:List D) (K:KN):Prop :=
 match args with
 | [.own k]=>match σ k with
  | some (.arr _ z' rows)=>match decide (z'=z) with
   | true=>C.yJ (decide (rows.length*y≤140737488355328)&&decide (rows.length≤140737488355328)) (K (.own n) (bY σ n (some (.arr false z rows))) (n+1))
   | false=>C.bad 168
  | _=>C.bad 169
 | [.p t]=>match fK t with
  | some (_,rows)=>C.yJ ((rows.all fun r=>decide (r.length=z))&&decide (rows.length*y≤140737488355328)&&decide (rows.length≤140737488355328)) (K (.own n) (bY σ n (some (.arr false z rows))) (n+1))
  | none=>C.bad 170
 | _=>C.bad 171
def A2T (z y:Nat) (σ:Nat→Option bB) (n:Nat) (args:List D) (K:KN):Prop :=
 match args with
 | [.p (.v (.slice none 0 0)),.p (.v (.int .i64 m))]=>C.yJ (decide (0≤m)&&decide (m.toNat*y≤140737488355328)&&decide (m.toNat≤140737488355328)) (K (.own n) (bY σ n (some (.arr false z []))) (n+1))
 | _=>C.bad 172
def AZ1:Sy→Nat→Option Nat
 | .pr a b,c=>match Nat.blt c a.w with
  | true=>AZ1 a c
  | false=>AZ1 b (c-a.w)
 | .li r,0=>some r.w
 | _,_=>none
def A8H (c:Nat) (g:List T→Option T) (fid:FuncId) (σ:Nat→Option bB) (n:Nat) (args:List D) (K:KN):Prop :=
 match PH P fid,gZ args with
 | some [(true,sy)],some ts=>match AZ1 sy c with
  | some z=>C.call [(true,sy)] (g ts) fun y=>match (sy.enc y)[c]? with
   | some (.sl _ rows)=>C.yJ (!rows.isEmpty&&fE z rows) (K (.agg (((sy.enc y).map D.p).set c (.own n))) (bY σ n (some (.arr false z rows))) (n+1))
   | _=>C.bad 175
  | none=>C.bad 176
 | _,_=>C.bad 177
def A8K (fid:FuncId):Option Sy:=match P.funcs[fid]? with
 | some fn=>match fn.params.toList with
  | t::_=>match P.underlying t with
   | some (.pointer e)=>YQ P e
   | _=>none
  | []=>none
 | none=>none
theorem TU (s:Bool×Sy) (ss:Sh) (y:Sh.den (s::ss)):A12 (Sh.iH (s::ss) y)=Sh.enc (s::ss) y:=by
 cases ss with
 | nil=>rfl
 | cons a l=>cases l<;>rfl
def A8C (g:List T→Option T) (fid:FuncId) (σ:Nat→Option bB) (n:Nat) (args:List D) (K:KN):Prop :=
 match args with
 | .ptr k i j::rest=>match decide (i=0)&&decide (j=0),σ k with
  | true,some (.rows ro [ds])=>match ro,gZ ds,gZ rest with
   | false,some cs,some ts=>match A8K P fid,PH P fid with
    | some sy,some (s::ss)=>match decide (sy.w=cs.length) with
     | true=>C.call ((true,sy)::s::ss) (g (.agg cs::ts)) fun y=>K (.p (Sh.enc (s::ss) y.2)) (bY σ k (some (.rows false [(sy.enc y.1).map .p]))) (n+1)
     | false=>C.bad 181
    | _,_=>C.bad 182
   | _,_,_=>C.bad 183
  | _,_=>C.bad 184
 | _=>C.bad 185
def A8Q:List TypeId→Option Sh
 | []=>some []
 | t::r=>match YQ P t,A8Q r with
  | some y,some s=>some ((true,y)::s)
  | _,_=>none
def A72 (vt:List TypeId) (g:List T→Option T) (fid:FuncId) (σ:Nat→Option bB) (n:Nat) (args:List D) (K:KN):Prop :=
 match VS fid args σ with
 | some (ins,rows,kk,σ1)=>match A8Q P vt,PH P fid with
  | some (v::vs),some (s::ss)=>C.call (v::(vs++s::ss)) (g ins) fun y=>match AIS rows (Sh.iH (v::(vs++s::ss)) y) with
   | true=>K (.p (A12 ((Sh.iH (v::(vs++s::ss)) y).drop rows.length))) (A2O σ1 kk (Sh.iH (v::(vs++s::ss)) y)) (n+1)
   | false=>C.bad 191
  | _,_=>C.bad 192
 | none=>C.bad 193
def A8L (g:List T→Option T) (fid:FuncId) (σ:Nat→Option bB) (n:Nat) (args:List D) (K:KN):Prop :=
 match AMX args σ with
 | some (k,cs,ts,σ1)=>match A8K P fid,PH P fid with
  | some sy,some (s::ss)=>match Nat.beq sy.w cs.length with
   | true=>C.call ((true,sy)::s::ss) (g (.agg cs::ts)) fun y=>K (.p (Sh.enc (s::ss) y.2)) (bY σ1 k (some (.rows false [(sy.enc y.1).map .p]))) (n+1)
   | false=>C.bad 194
  | _,_=>C.bad 195
 | none=>C.bad 196
def A78 (g:List T→Option T) (fid:FuncId) (σ:Nat→Option bB) (n:Nat) (args:List D) (K:KN):Prop :=
 match S4 σ (args.flatMap A8G) args with
 | some (args',σ1)=>match args'.mapM (iA (fun _=>none) 2),PH P fid with
  | some ts,some s=>C.call s (g (ts.map (T.canon 4))) fun y=>K (.p (Sh.enc s y)) σ1 (n+1)
  | _,_=>C.bad 197
 | none=>C.bad 198
def A4Q (o:Bool) (s:Option FuncId) (zs:List (Nat×Nat)) (g:List T→Option T) (fid:FuncId) (σ0 σ:Nat→Option bB) (n:Nat) (args:List D) (K:KN):Prop :=
 match w5 o s zs σ0 args,PH P fid with
 | some (_,row),some sh=>C.call sh (g (eF s row)) fun y=>match NJ s (Sh.enc sh y) with
  | some row'=>match KB row' zs with
   | some bs=>K (A9G s (kD zs n (row'.map .p))) (KA σ n bs) (n+zs.length)
   | none=>C.bad 199
  | none=>C.bad 198
 | _,_=>C.bad 200
def AHW (σ:Nat→Option bB) (n:Nat) (f:D) (args:List D) (K:KN):Prop :=
 match jW f with
 | some (fid,a,b)=>match E fid with
  | some (.perm z g)=>A8I C z g σ n (a++args++b) K
  | some (.grow z g)=>A8A C z g (AW9 P fid) σ n (a++args++b) K
  | some (.dup z y)=>BEF C z y σ n (a++args++b) K
  | some (.room z y)=>A2T C z y σ n (a++args++b) K
  | some (.A51 g)=>A8C C P g fid σ n (a++args++b) K
  | some (.A9F vt g)=>A72 C P vt g fid σ n (a++args++b) K
  | some (.BCS g)=>A8L C P g fid σ n (a++args++b) K
  | some (.BAX g)=>A78 C P g fid σ n (a++args++b) K
  | some (.cpy o s zs g)=>A4Q C P o s zs g fid σ σ n (a++args++b) K
  | some (.part c g)=>A8H C P c g fid σ n (a++args++b) K
  | _=>match E fid,AW9 P fid,gZ (a++args++b) with
   | some (.fresh g),some r,some ts=>C.fresh r (g ts) fun l=>aD l.isEmpty (K (.p (.sl false [])) σ (n+1)) (K (.own n) (bY σ n (some (.arr false r.w (l.map r.enc)))) (n+1))
   | some (.N8 g),some r,some ts=>C.fresh r (g ts) fun l=>aD l.isEmpty (K (.p (.sl true [])) σ (n+1)) (C.yJ ((l.map r.enc).all fun x=>x.all T.flat) (K (.own n) (bY σ n (some (.arr false r.w (l.map r.enc)))) (n+1)))
   | _,_,_=>C.bad 151
 | none=>C.bad 152
def AWT (σ:Nat→Option bB) (n:Nat) (t:TypeId) (d s:D) (K:KN):Prop :=
 match l6 P t with
 | some e=>match tsz? P e,H8 σ s,d with
  | some z,some xs,.own k=>match σ k with
   | some (.arr ro z' rs)=>match ro,decide (z'=z) with
    | false,true=>C.yJ (decide (xs.length=rs.length)&&decide (0<xs.length)&&fE z xs) (K (.p (.v (.int .i64 (xs.length:Int)))) (bY σ k (some (.arr false z xs))) (n+1))
    | _,_=>C.bad 163
   | _=>C.bad 164
  | _,_,_=>C.bad 173
 | none=>C.bad 174
def nvS (σ:Nat→Option bB) (s:Nat→D) (n:Nat) (op:Op) (K:KN):Prop :=
 match op with
 | .store t a v=>AKV C P σ n t (ev s a) (ev s v) K
 | .makeSlice t l c=>AZ7 C P σ n t (ev s l) (ev s c) K
 | .mapUpdate t m i v=>A56 C P σ n t (ev s m) (ev s i) (ev s v) K
 | .insert t m i v=>A56 C P σ n t (ev s m) (ev s i) (ev s v) K
 | .next it isString=>A0I C σ n isString (ev s it) K
 | .call c =>
  match c.callee,c.args.toList,c.argTypes.toList with
  | .builtin .append,[x,y],[t,u]=>VN C P σ n t u (ev s x) (ev s y) K
  | .builtin .copy,[x,y],[t,_]=>AWT C P σ n t (ev s x) (ev s y) K
  | .value f,as,_=>AHW C P E σ n (ev s f) (as.map (ev s)) K
  | _,_,_=>C.bad 161
 | op=>A63 C 162 (nv P E σ s n op) K
end
section
variable {P : Program} {E : Env}
theorem TO {c:Nat} {x:Option (D×(Nat→Option bB)×Nat)} {K:KN} (h:A63 nF c x K):∃ d σ' n',x=some (d,σ',n')∧K d σ' n':=by
 unfold A63 at h
 split at h
 ·exact ⟨_,_,_,rfl,h⟩
 ·exact h.elim
theorem AEP {σ:Nat→Option bB} {n:Nat} {t:TypeId} {a v:D} {K:KN} (h:AKV nF P σ n t a v K):∃ d σ' n',one n ((iD P σ t a v).map fun σ'=>(D.p (.v undef),σ'))=some (d,σ',n')∧K d σ' n':=by
 unfold AKV at h
 split at h
 ·rename_i k i j
  split at h
  ·rename_i ro za rows hσ
   split at h
   ·rename_i z ts hz hts
    split at h
    ·rename_i hc
     obtain ⟨r,hr,hb,hk⟩:=h
     refine ⟨_,_,_,?_,hk⟩
     simp only[one,iD,hσ,hz,hr,hts]
     simp_all
    ·exact h.elim
   ·exact h.elim
  ·exact TO h
 ·exact h.elim
theorem Q3 {σ:Nat→Option bB} {n:Nat} {t u e:TypeId} {s x:D} {K:KN} (he:l6 P t=some e) (h:M8 nF P σ n u e s x K):∃ d σ' n',one n (uL P σ n t u s x)=some (d,σ',n')∧K d σ' n':=by
 unfold M8 at h
 split at h
 ·rename_i b hu
  split at h
  ·rename_i z by_ zv k₀ hz hby hzv
   split at h
   ·rename_i z' rs hc hσ
    simp only[Bool.and_eq_true,decide_eq_true_eq,beq_iff_eq] at hc
    obtain ⟨hb,hk⟩:=h
    refine ⟨_,_,_,?_,hk⟩
    simp only[one,uL,he,hu,hz,hby,hzv]
    rw[if_pos ⟨hc.1.1,hc.1.2,hc.2⟩]
    simp_all
   ·exact h.elim
  ·exact h.elim
 ·exact h.elim
theorem VO {σ:Nat→Option bB} {n:Nat} {t u:TypeId} {s x:D} {K:KN} (h:VN nF P σ n t u s x K):∃ d σ' n',one n (jB P σ n t u s x)=some (d,σ',n')∧K d σ' n':=by
 unfold VN at h
 split at h
 ·rename_i e htu he
  have htu:t=u:=of_decide_eq_true htu
  split at h
  ·rename_i z by_ zv xs hz hby hzv hxs
   split at h
   ·rename_i hc
    simp only[Bool.and_eq_true,decide_eq_true_eq,beq_iff_eq] at hc
    split at h
    ·split at h
     ·obtain ⟨hb,hk⟩:=h
      simp only[Bool.and_eq_true,decide_eq_true_eq] at hb
      refine ⟨_,_,_,?_,hk⟩
      simp only[one,jB,if_pos htu,he,hz,hby,hzv,hxs]
      rw[if_pos ⟨hc.1.1,hc.1.2,hc.2,hb.1.1.1⟩]
      simp_all
     ·rename_i full r rows hrow
      rw[qP] at h
      cases xs with
      | nil =>
       refine ⟨_,_,_,?_,h.1 rfl⟩
       simp only[one,jB,if_pos htu,he,hz,hby,hzv,hxs]
       rw[if_pos ⟨hc.1.1,hc.1.2,hc.2,rfl⟩]
       simp_all
      | cons x0 xs =>
       obtain ⟨hb,hk⟩:=h.2 rfl
       simp only[Bool.and_eq_true,decide_eq_true_eq] at hb
       refine ⟨_,_,_,?_,hk⟩
       simp only[one,jB,if_pos htu,he,hz,hby,hzv,hxs]
       rw[if_pos ⟨hc.1.1,hc.1.2,hc.2,hb.1.1.2⟩]
       simp only[hrow]
       rw[if_pos ⟨hb.1.1.1.1,hb.1.1.1.2,hb.1.2,hb.2⟩]
       rfl
     ·exact h.elim
    ·split at h
     ·split at h
      ·obtain ⟨hb,hk⟩:=h
       simp only[Bool.and_eq_true,decide_eq_true_eq] at hb
       refine ⟨_,_,_,?_,hk⟩
       simp only[one,jB,if_pos htu,he,hz,hby,hzv,hxs]
       rw[if_pos ⟨hc.1.1,hc.1.2,hc.2,hb.1.1.2⟩]
       simp_all
      ·exact h.elim
     ·exact h.elim
    ·exact h.elim
   ·exact h.elim
  ·exact h.elim
 ·rename_i e htu he
  obtain ⟨d,σ',n',h1,h2⟩:=Q3 (t:=t) he h
  refine ⟨d,σ',n',?_,h2⟩
  unfold jB
  simp_all
 ·exact h.elim
theorem AIY {σ:Nat→Option bB} {n:Nat} {t:TypeId} {a b:D} {K:KN} (h:AZ7 nF P σ n t a b K):∃ d σ' n',one n (TB P σ n t a b)=some (d,σ',n')∧K d σ' n':=by
 unfold AZ7 at h
 split at h
 ·rename_i e he
  split at h
  ·rename_i z by_ zv k1 x k2 y hz hby hzv
   split at h
   ·rename_i hc
    simp only[Bool.and_eq_true,decide_eq_true_eq,beq_iff_eq] at hc
    obtain ⟨hb,hk⟩:=h
    simp only[Bool.and_eq_true,Bool.or_eq_true,decide_eq_true_eq] at hb
    refine ⟨_,_,_,?_,hk⟩
    simp only[one,TB,he,hz,hby,hzv]
    rw[if_pos ⟨hb.1.1.1,hb.1.1.2,hb.1.2,hb.2,hc.1.1,hc.1.2,hc.2⟩]
    rfl
   ·exact h.elim
  ·exact h.elim
 ·exact h.elim
theorem TG {σ:Nat→Option bB} {n:Nat} {t:TypeId} {x i v:D} {K:KN} (h:A56 nF P σ n t x i v K):∃ d σ' n',one n ((ADK P σ t x i v).map fun σ'=>(D.p (.v undef),σ'))=some (d,σ',n')∧K d σ' n':=by
 unfold A56 at h
 split at h
 ·rename_i kt et hu
  split at h
  ·rename_i kd k m hk
   split at h
   ·rename_i ro es hkey hσ
    split at h
    ·obtain ⟨r,hr,hk'⟩:=h
     refine ⟨_,_,_,?_,hk'⟩
     simp only[one,ADK,hu,hk,hkey,hσ,hr]
     rfl
    ·exact h.elim
   ·exact h.elim
  ·exact h.elim
 ·exact h.elim
theorem AI0 {σ:Nat→Option bB} {n:Nat} {b:Bool} {x:D} {K:KN} (h:A0I nF σ n b x K):∃ d σ' n',one n (TI σ b x)=some (d,σ',n')∧K d σ' n':=by
 unfold A0I at h
 split at h
 ·split at h
  ·rename_i s pos hσ
   rw[qP] at h
   by_cases hp:pos<s.size
   ·refine ⟨_,_,_,?_,h.1 (by simpa using hp)⟩
    simp only[one,TI,hσ]
    simp_all
   ·refine ⟨_,_,_,?_,h.2 (by simpa using hp)⟩
    simp only[one,TI,hσ]
    simp_all
  ·exact h.elim
 ·exact h.elim
theorem R8 {o:Bool} {s:Option FuncId} {zs:List (Nat×Nat)} {g:List T→Option T} {fid:FuncId} {σ0 σ:Nat→Option bB} {n:Nat} {args:List D} {K:KN} (h:A4Q nF P o s zs g fid σ0 σ n args K):∃ d σ' n',CF o s zs g args σ0 σ n=some (d,σ',n')∧K d σ' n':=by
 unfold A4Q at h
 split at h
 ·rename_i b row sh hin hsh
  obtain ⟨y,hg,h⟩:=h
  split at h
  ·rename_i row' hr
   split at h
   ·rename_i bs hbs
    exact ⟨_,_,_,by simp only[CF,hin,hg,hr,hbs],h⟩
   ·exact h.elim
  ·exact h.elim
 ·exact h.elim
theorem ABE {σ:Nat→Option bB} {n:Nat} {f:D} {args:List D} {K:KN} (h:AHW nF P E σ n f args K):∃ d σ' n',kQ E σ n f args=some (d,σ',n')∧K d σ' n':=by
 unfold AHW at h
 split at h
 ·rename_i fid a b hc
  split at h
  ·rename_i z g hE
   unfold A8I at h
   split at h
   ·rename_i k hargs
    split at h
    ·rename_i ro z' rows hσ
     split at h
     ·rename_i hz
      obtain ⟨rows',h1,h2⟩:=h
      refine ⟨_,_,_,?_,h2⟩
      simp only[kQ,hc,hE,ABJ,hargs,hσ,hz,h1,Option.map_some]
     ·exact h.elim
    ·exact h.elim
   ·exact h.elim
  ·rename_i z g hE
   unfold A8A at h
   split at h
   ·rename_i r k rest hr hargs
    split at h
    ·rename_i ro z' rows ts hσ hts
     split at h
     ·rename_i hz
      obtain ⟨l,h1,h2⟩:=h
      rw[Bool.and_eq_true] at hz
      have hw:r.w=z:=of_decide_eq_true hz.2
      rw[hw] at h2
      refine ⟨_,_,_,?_,h2⟩
      simp only[kQ,hc,hE,mP,hargs,hσ,hts,hz.1,h1,Option.map_some]
     ·exact h.elim
    ·exact h.elim
   ·exact h.elim
  ·rename_i z g hE
   unfold BEF at h
   split at h
   ·rename_i k hargs
    split at h
    ·rename_i ro z' rows hσ
     split at h
     ·rename_i hz
      obtain ⟨h1,h2⟩:=h
      refine ⟨_,_,_,?_,h2⟩
      rw[Bool.and_eq_true] at h1
      simp only[kQ,hc,hE,CG,hargs,hσ,hz,h1.1,h1.2,Bool.and_true]
     ·exact h.elim
    ·exact h.elim
   ·rename_i t hargs
    split at h
    ·rename_i full rows hr
     obtain ⟨h1,h2⟩:=h
     refine ⟨_,_,_,?_,h2⟩
     simp only[kQ,hc,hE,CG,hargs,hr,h1]
    ·exact h.elim
   ·exact h.elim
  ·rename_i z g hE
   unfold A2T at h
   split at h
   ·rename_i m hargs
    obtain ⟨h1,h2⟩:=h
    refine ⟨_,_,_,?_,h2⟩
    simp only[kQ,hc,hE,ABL,hargs,h1]
   ·exact h.elim
  ·rename_i g hE
   unfold A8C at h
   split at h
   ·rename_i k i j rest hargs
    split at h
    ·rename_i ro ds hij hσ
     split at h
     ·rename_i cs ts hcs hts
      split at h
      ·rename_i sy s ss hsy hs
       split at h
       ·rename_i hw
        obtain ⟨y,h1,h2⟩:=h
        refine ⟨_,_,_,?_,h2⟩
        have h1':g (.agg cs::ts)=some (.bZ (.agg (sy.enc y.1)::Sh.iH (s::ss) y.2)):=h1
        have hl:decide ((sy.enc y.1).length=cs.length)=true:=by rw[Sy.cP];exact hw
        simp only[kQ,hc,hE,ABI,hargs,hij,hσ,hcs,hts,h1',hl,TU]
       ·exact h.elim
      ·exact h.elim
     ·exact h.elim
    ·exact h.elim
   ·exact h.elim
  ·rename_i vt g hE
   unfold A72 at h
   split at h
   ·rename_i ins rows kk σ1 hin
    split at h
    ·rename_i v vs s ss hv hs
     obtain ⟨y,h1,h2⟩:=h
     split at h2
     ·rename_i hl
      refine ⟨_,_,_,?_,h2⟩
      have h1':g ins=some (.bZ (Sh.iH (v::(vs++s::ss)) y)):=by
       rw[h1];cases vs<;>rfl
      simp only[kQ,hc,hE,ABG,hin,h1',hl]
     ·exact h2.elim
    ·exact h.elim
   ·exact h.elim
  ·rename_i g hE
   unfold A8L at h
   split at h
   ·rename_i k cs ts σ1 hin
    split at h
    ·rename_i sy s ss hsy hs
     split at h
     ·rename_i hw
      obtain ⟨y,h1,h2⟩:=h
      refine ⟨_,_,_,?_,h2⟩
      have h1':g (.agg cs::ts)=some (.bZ (.agg (sy.enc y.1)::Sh.iH (s::ss) y.2)):=h1
      have hl:Nat.beq (sy.enc y.1).length cs.length=true:=by rw[Sy.cP];exact hw
      simp only[kQ,hc,hE,ABK,hin,h1',hl,TU]
     ·exact h.elim
    ·exact h.elim
   ·exact h.elim
  ·rename_i g hE
   unfold A78 at h
   split at h
   ·rename_i ps σ1 hin
    split at h
    ·rename_i ts s hts hs
     obtain ⟨y,h1,h2⟩:=h
     refine ⟨_,_,_,?_,h2⟩
     simp only[kQ,hc,hE,ABH,hin,hts,h1,Option.map_some]
    ·exact h.elim
   ·exact h.elim
  ·rename_i o s zs g hE
   obtain ⟨d,σ',n',h1,h2⟩:=R8 h
   exact ⟨d,σ',n',by simp only[kQ,hc,hE,h1],h2⟩
  ·rename_i c g hE
   unfold A8H at h
   split at h
   ·rename_i sy ts hsh hts
    split at h
    ·rename_i z hz
     obtain ⟨y,hg,h⟩:=h
     split at h
     ·rename_i fl rows hcc
      obtain ⟨h1,h2⟩:=h
      refine ⟨_,_,_,?_,h2⟩
      rw[Bool.and_eq_true] at h1
      have hg':g ts=some (.agg (sy.enc y)):=hg
      cases rows with
      | nil=>cases h1.1
      | cons r rows =>
       have hr:r.length=z:=by
        simp_all
       subst hr
       simp only[kQ,hc,hE,hts,hg',hcc]
     ·exact h.elim
    ·exact h.elim
   ·exact h.elim
  ·split at h
   ·rename_i g r ts hE hr hts
    obtain ⟨l,h1,h2⟩:=h
    rw[qP] at h2
    cases l with
    | nil =>
     refine ⟨_,_,_,?_,h2.1 rfl⟩
     simp only[kQ,hc,hE,hts,h1]
     rfl
    | cons x l =>
     refine ⟨_,_,_,?_,h2.2 rfl⟩
     simp only[kQ,hc,hE,hts,h1,List.map_cons,Sy.cP]
   ·rename_i g r ts hE hr hts
    obtain ⟨l,h1,h2⟩:=h
    rw[qP] at h2
    have hm:(a++args++b).mapM (iA σ 4)=some ts:=by rw[fG hts];exact OB σ 4 ts
    cases l with
    | nil =>
     refine ⟨_,_,_,?_,h2.1 rfl⟩
     simp only[kQ,hc,hE,hm,h1]
     rfl
    | cons x l =>
     obtain ⟨h3,h4⟩:=h2.2 rfl
     refine ⟨_,_,_,?_,h4⟩
     rw[List.map_cons] at h3
     simp only[kQ,hc,hE,hm,h1,List.map_cons,Sy.cP,h3]
   ·exact h.elim
 ·exact h.elim
theorem AG8 {σ:Nat→Option bB} {n:Nat} {t:TypeId} {d s:D} {K:KN} (h:AWT nF P σ n t d s K):∃ d' σ' n',one n (R5 P σ t d s)=some (d',σ',n')∧K d' σ' n':=by
 unfold AWT at h
 split at h
 case h_2=>exact h.elim
 rename_i e he
 split at h
 case h_2=>exact h.elim
 rename_i z xs k hz hx
 split at h
 case h_2=>exact h.elim
 rename_i ro z' rs hσ
 split at h
 case h_2=>exact h.elim
 rename_i hzz
 obtain ⟨hb,hk⟩:=h
 simp only[Bool.and_eq_true,decide_eq_true_eq] at hb
 refine ⟨_,_,_,?_,hk⟩
 simp only[one,R5,he,hz,hx,hσ]
 rw[if_pos ⟨of_decide_eq_true hzz,hb.1.1,hb.1.2,hb.2⟩]
 rfl
theorem A0M {σ:Nat→Option bB} {s:Nat→D} {n:Nat} {op:Op} {K:KN} (h:nvS nF P E σ s n op K):∃ d σ' n',nv P E σ s n op=some (d,σ',n')∧K d σ' n':=by
 unfold nvS at h
 split at h
 ·exact AEP h
 ·exact AIY h
 ·exact TG h
 ·exact TG h
 ·exact AI0 h
 ·split at h
  ·rename_i x y t u hc ha hat
   obtain ⟨d,σ',n',h1,h2⟩:=VO h
   refine ⟨d,σ',n',?_,h2⟩
   simp only[nv,hc,ha,hat]
   exact h1
  ·rename_i x y t u hc ha hat
   obtain ⟨d,σ',n',h1,h2⟩:=AG8 h
   refine ⟨d,σ',n',?_,h2⟩
   simp only[nv,hc,ha,hat]
   exact h1
  ·rename_i f hc
   obtain ⟨d,σ',n',h1,h2⟩:=ABE h
   refine ⟨d,σ',n',?_,h2⟩
   simp only[nv,hc,AAK,h1]
  ·exact h.elim
 ·exact TO h
end
def qZ (σ:Nat→Option bB) (n:Nat) (σ':Nat→Option bB) (n':Nat):Prop:=n≤n'∧∀ k x,k<n→σ k=some x→gM x=false→σ' k=some x
theorem qZ.refl (σ:Nat→Option bB) (n:Nat):qZ σ n σ n:=⟨Nat.le_refl _,fun _ _ _ h _=>h⟩
theorem qZ.trans {σ σ' σ'':Nat→Option bB} {n n' n'':Nat} (h:qZ σ n σ' n') (h':qZ σ' n' σ'' n''):qZ σ n σ'' n'' :=
 ⟨Nat.le_trans h.1 h'.1,fun k x hk hx hw=>h'.2 k x (Nat.lt_of_lt_of_le hk h.1) (h.2 k x hk hx hw) hw⟩
theorem qZ.new {σ:Nat→Option bB} {n n':Nat} (x:Option bB) (h:n≤n'):qZ σ n (bY σ n x) n':=⟨h,fun k y hk hy _=>by rw[bK _ _ (by omega)];exact hy⟩
theorem qZ.same {σ:Nat→Option bB} {n n':Nat} (h:n≤n'):qZ σ n σ n':=⟨h,fun _ _ _ h _=>h⟩
theorem qZ.set {σ:Nat→Option bB} {n n' m:Nat} {x₀:bB} (x:Option bB) (h:n≤n') (hm:σ m=some x₀) (hw:gM x₀=true):qZ σ n (bY σ m x) n':=⟨h,fun k y hk hy hy'=>by
 by_cases e:k=m
 ·simp_all
 ·rw[bK _ _ e];exact hy⟩
def eH (E:Env):Prop:=∀ f g,E f≠some (.heap g)
section
variable {P : Program} {E : Env}
theorem e9 {n:Nat} {x:Option (D×(Nat→Option bB))} {d:D} {σ':Nat→Option bB} {n':Nat} (h:one n x=some (d,σ',n')):x=some (d,σ')∧n'=n+1:=by
 unfold one at h
 cases x with
 | none=>cases h
 | some y=>obtain ⟨a,b⟩:=y;simp only[Option.map_some,Option.some.injEq,Prod.mk.injEq] at h;obtain ⟨rfl,rfl,rfl⟩:=h;exact ⟨rfl,rfl⟩
theorem x5:∀ {ps ps':List (Nat×D)} {σ σ1:Nat→Option bB} {n n':Nat},n≤n'→BE σ ps=some (ps',σ1)→qZ σ n σ1 n'
 | [],ps',σ,σ1,n,n',hn,h=>by
  cases h
  exact .same hn
 | p::ps,ps',σ,σ1,n,n',hn,h=>by
  unfold BE at h
  split at h
  ·simp_all
  ·rename_i i k r e
   split at h
   ·rename_i z rows hk
    simp only[Option.map_eq_some_iff,Prod.mk.injEq] at h
    obtain ⟨⟨_,_⟩,hg,_,rfl⟩:=h
    exact (qZ.set (n':=n) none (Nat.le_refl _) hk rfl).trans (x5 hn hg)
   ·cases h
  ·rename_i i d r _ e
   simp only[Option.map_eq_some_iff,Prod.mk.injEq] at h
   obtain ⟨⟨_,_⟩,hg,_,rfl⟩:=h
   exact x5 hn hg
theorem TW {k:Nat} {cs:List T}:∀ {ks:List Nat} {σ:Nat→Option bB} {rows:List (List T)},yL σ ks=some rows→∃ rows',yL (bY σ k (some (.rows false [cs.map .p]))) ks=some rows'
 | [],σ,rows,_=>⟨[],rfl⟩
 | k'::ks,σ,rows,h=>by
  unfold yL at h
  split at h
  ·rename_i ds hσ
   split at h
   ·rename_i row rs hds hrs
    obtain ⟨rows',hr'⟩:=TW (k:=k) (cs:=cs) hrs
    by_cases e:k'=k
    ·subst e
     exact ⟨cs.map (T.canon 4)::rows',by simp only[yL,fC,M3,hr']⟩
    ·exact ⟨row.map (T.canon 4)::rows',by simp only[yL,bK _ _ e,hσ,hds,hr']⟩
   ·cases h
  ·cases h
theorem AM3:∀ {kk:List Nat} {σ:Nat→Option bB} {n:Nat} {ts:List T} {rows:List (List T)},yL σ kk=some rows→qZ σ n (A2O σ kk ts) n
 | [],σ,n,ts,rows,_=>.same (Nat.le_refl _)
 | k::ks,σ,n,ts,rows,h=>by
  unfold A2O
  split
  ·rename_i k' ks' cs ts' e
   cases e
   unfold yL at h
   split at h
   ·rename_i ds hσ
    split at h
    ·rename_i row rs hds hrs
     have hrs':∃ rows',yL (bY σ k (some (.rows false [cs.map .p]))) ks=some rows':=TW hrs
     obtain ⟨rows',hrs'⟩:=hrs'
     exact (qZ.set (n':=n) _ (Nat.le_refl _) hσ rfl).trans (AM3 hrs')
    ·cases h
   ·cases h
  ·exact .same (Nat.le_refl _)
theorem API {f:FuncId} {args:List D} {σ σ1:Nat→Option bB} {n:Nat} {ins:List T} {rows:List (List T)} {kk:List Nat} (h:VS f args σ=some (ins,rows,kk,σ1)):qZ σ n σ1 n∧yL σ1 kk=some rows:=by
 unfold VS at h
 split at h
 ·rename_i ps σ2 ks hg hp
  split at h
  ·split at h
   ·rename_i rows' vals hr hs
    obtain ⟨_,rfl,rfl,rfl⟩:=h
    exact ⟨x5 (Nat.le_refl _) hg,hr⟩
   ·cases h
  ·cases h
 ·cases h
theorem A1N {args:List D} {σ σ1:Nat→Option bB} {n k:Nat} {cs ts:List T} (h:AMX args σ=some (k,cs,ts,σ1)):qZ σ n σ1 n∧∃ row,σ1 k=some (.rows false [row]):=by
 unfold AMX at h
 split at h
 ·split at h
  ·rename_i ps σ2 hg
   split at h
   ·rename_i ds ts' hσ hts
    split at h
    ·obtain ⟨rfl,_,_,rfl⟩:=h
     exact ⟨x5 (Nat.le_refl _) hg,_,hσ⟩
    ·cases h
   ·cases h
  ·cases h
 ·cases h
theorem ASW {k:Nat} {rows:List (List T)} {x:bB} (h:gM x=false):AKY k rows x=x:=by
 unfold AKY
 split
 ·cases h
 ·rfl
theorem A7C {σ:Nat→Option bB} {n k:Nat} {z:Nat} {rows:List (List T)} (hk:σ k=some (.arr false z rows)):qZ σ n (BCY σ k rows) n:=⟨Nat.le_refl _,fun j x hj hx hw=>by
 unfold BCY
 split
 ·rename_i e
  have e:=Nat.eq_of_beq_eq_true e
  subst e
  rw[hk] at hx;cases hx;cases hw
 ·rw[hx,Option.map_some,ASW hw]⟩
theorem OO:∀ {ks:List Nat} {σ σ1:Nat→Option bB} {n:Nat} {args args':List D},S4 σ ks args=some (args',σ1)→qZ σ n σ1 n
 | [],σ,σ1,n,args,args',h=>by cases h;exact .same (Nat.le_refl _)
 | k::ks,σ,σ1,n,args,args',h=>by
  unfold S4 at h
  split at h
  ·rename_i hk
   exact (A7C hk).trans (OO h)
  ·exact OO h
  ·cases h
theorem AWJ (hh:eH E) {σ:Nat→Option bB} {n:Nat} {c:D} {args:List D} {d:D} {σ':Nat→Option bB} {n':Nat} (h:kQ E σ n c args=some (d,σ',n')):qZ σ n σ' n':=by
 unfold kQ at h
 split at h
 ·split at h
  ·split at h
   ·split at h
    ·split at h
     ·cases h;exact .same (by omega)
     ·cases h;exact .new _ (by omega)
    ·cases h
   ·split at h
    ·split at h
     ·split at h
      ·cases h;exact .new _ (by omega)
      ·cases h
     ·cases h
    ·cases h
  ·split at h
   ·split at h
    ·cases h;exact .same (by omega)
    ·split at h
     ·cases h;exact .new _ (by omega)
     ·cases h
    ·cases h
   ·cases h
  ·rename_i hg;exact absurd hg (hh _ _)
  ·unfold ABJ at h
   split at h
   ·split at h
    ·rename_i hσ
     split at h
     ·simp only[Option.map_eq_some_iff,Prod.mk.injEq] at h
      obtain ⟨_,_,_,rfl,rfl⟩:=h
      exact .set _ (by omega) hσ rfl
     ·cases h
    ·cases h
   ·cases h
  ·unfold mP at h
   split at h
   ·split at h
    ·rename_i hσ
     split at h
     ·simp only[Option.map_eq_some_iff,Prod.mk.injEq] at h
      obtain ⟨_,_,_,rfl,rfl⟩:=h
      exact (qZ.set (n':=n) none (Nat.le_refl _) hσ rfl).trans (.new _ (by omega))
     ·cases h
    ·cases h
   ·cases h
  ·unfold CG at h
   split at h
   ·split at h
    ·split at h
     ·obtain ⟨_,rfl,rfl⟩:=h
      exact .new _ (by omega)
     ·cases h
    ·cases h
   ·split at h
    ·split at h
     ·obtain ⟨_,rfl,rfl⟩:=h
      exact .new _ (by omega)
     ·cases h
    ·cases h
   ·cases h
  ·unfold ABL at h
   split at h
   ·split at h
    ·obtain ⟨_,rfl,rfl⟩:=h
     exact .new _ (by omega)
    ·cases h
   ·cases h
  ·unfold ABI at h
   split at h
   ·split at h
    ·rename_i hσ
     split at h
     ·split at h
      ·split at h
       ·obtain ⟨_,rfl,rfl⟩:=h
        exact .set _ (by omega) hσ rfl
       ·cases h
      ·cases h
     ·cases h
    ·cases h
   ·cases h
  ·unfold ABG at h
   split at h
   ·rename_i ins rows kk σ1 hin
    split at h
    ·split at h
     ·obtain ⟨_,rfl,rfl⟩:=h
      obtain ⟨hg,hr⟩:=API (n:=n) hin
      exact (hg.trans (AM3 hr)).trans (.same (by omega))
     ·cases h
    ·cases h
   ·cases h
  ·unfold ABK at h
   split at h
   ·rename_i k cs ts σ1 hin
    split at h
    ·split at h
     ·obtain ⟨_,rfl,rfl⟩:=h
      obtain ⟨hg,row,hr⟩:=A1N (n:=n) hin
      exact hg.trans (.set _ (by omega) hr rfl)
     ·cases h
    ·cases h
   ·cases h
  ·unfold ABH at h
   split at h
   ·rename_i ps σ1 hin
    split at h
    ·simp only[Option.map_eq_some_iff,Prod.mk.injEq] at h
     obtain ⟨_,_,_,rfl,rfl⟩:=h
     exact (OO (n:=n) hin).trans (.same (by omega))
    ·cases h
   ·cases h
  ·obtain ⟨rfl,hlow⟩:=AX2 h
   exact ⟨Nat.le_add_right _ _,fun k x hk hx _=>by rw[hlow k hk];exact hx⟩
  ·split at h
   ·split at h
    ·split at h
     ·obtain ⟨_,rfl,rfl⟩:=h
      exact .new _ (by omega)
     ·cases h
    ·cases h
   ·cases h
  ·cases h
 ·cases h
theorem BEW (hh:eH E) {σ:Nat→Option bB} {s:Nat→D} {n:Nat} {op:Op} {d:D} {σ':Nat→Option bB} {n':Nat} (h:nv P E σ s n op=some (d,σ',n')):qZ σ n σ' n':=by
 unfold nv at h
 split at h
 ·obtain ⟨h1,rfl⟩:=e9 h
  cases hz:tz? P _ with
  | none=>rw[hz] at h1;cases h1
  | some z =>
   rw[hz] at h1
   simp only[Option.bind_some,Option.map_eq_some_iff,Prod.mk.injEq] at h1
   obtain ⟨b,_,rfl,rfl⟩:=h1
   exact .new _ (by omega)
 ·obtain ⟨h1,rfl⟩:=e9 h
  simp only[Option.map_eq_some_iff,Prod.mk.injEq] at h1
  obtain ⟨b,_,rfl,rfl⟩:=h1
  exact .new _ (by omega)
 ·obtain ⟨h1,rfl⟩:=e9 h
  simp only[Option.map_eq_some_iff,Prod.mk.injEq] at h1
  obtain ⟨σ₂,h2,rfl,rfl⟩:=h1
  unfold iD at h2
  split at h2
  ·split at h2
   ·rename_i hσ hz
    split at h2
    ·split at h2
     ·cases h2;exact .set _ (by omega) hσ rfl
     ·cases h2
    ·cases h2
   ·rename_i hσ hz
    split at h2
    ·split at h2
     ·cases h2;exact .set _ (by omega) hσ rfl
     ·cases h2
    ·cases h2
   ·cases h2
  ·cases h2
 ·split at h
  ·rename_i r hr
   obtain ⟨h1,rfl⟩:=e9 h
   cases h1
   unfold AMF at hr
   split at hr
   ·split at hr
    ·cases hr;exact .new _ (by omega)
    ·cases hr
   ·cases hr;exact .new _ (by omega)
   ·cases hr;exact .new _ (by omega)
   ·cases hr
  ·obtain ⟨h1,rfl⟩:=e9 h
   unfold AJP at h1
   split at h1
   ·cases h1;exact .new _ (by omega)
   ·cases h1
 ·split at h
  ·obtain ⟨h1,rfl⟩:=e9 h
   cases h1;exact .new _ (by omega)
  ·split at h
   ·obtain ⟨h1,rfl⟩:=e9 h
    cases h1;exact .new _ (by omega)
   ·cases h
 ·obtain ⟨h1,rfl⟩:=e9 h
  unfold TB at h1
  split at h1
  ·split at h1
   ·split at h1
    ·cases h1;exact .new _ (by omega)
    ·cases h1
   ·cases h1
  ·cases h1
 ·split at h
  ·rename_i hgv
   split at h
   ·obtain ⟨h1,rfl⟩:=e9 h
    cases h1;exact (x5 (Nat.le_refl _) hgv).trans (.new _ (by omega))
   ·cases h
  ·cases h
 ·obtain ⟨h1,rfl⟩:=e9 h
  simp only[Option.map_eq_some_iff,Prod.mk.injEq] at h1
  obtain ⟨σ₂,h2,rfl,rfl⟩:=h1
  unfold ADK at h2
  split at h2
  ·split at h2
   ·split at h2
    ·rename_i hσ
     split at h2
     ·cases h2;exact .set _ (by omega) hσ rfl
     ·cases h2
    ·cases h2
   ·cases h2
  ·cases h2
 ·obtain ⟨h1,rfl⟩:=e9 h
  simp only[Option.map_eq_some_iff,Prod.mk.injEq] at h1
  obtain ⟨σ₂,h2,rfl,rfl⟩:=h1
  unfold ADK at h2
  split at h2
  ·split at h2
   ·split at h2
    ·rename_i hσ
     split at h2
     ·cases h2;exact .set _ (by omega) hσ rfl
     ·cases h2
    ·cases h2
   ·cases h2
  ·cases h2
 ·obtain ⟨h1,rfl⟩:=e9 h
  unfold AMB at h1
  split at h1
  ·split at h1
   ·split at h1
    ·rename_i hσ
     split at h1
     ·cases h1;exact .set _ (by omega) hσ rfl
     ·cases h1;exact .set _ (by omega) hσ rfl
     ·cases h1
    ·cases h1
   ·cases h1
  ·cases h1
 ·obtain ⟨h1,rfl⟩:=e9 h
  simp only[Option.map_eq_some_iff,Prod.mk.injEq] at h1
  obtain ⟨σ₂,h2,rfl,rfl⟩:=h1
  unfold AMG at h2
  split at h2
  ·split at h2
   ·rename_i hσ
    split at h2
    ·cases h2;exact .set _ (by omega) hσ rfl
    ·cases h2
   ·cases h2
  ·cases h2
 ·obtain ⟨h1,rfl⟩:=e9 h
  simp only[Option.map_eq_some_iff,Prod.mk.injEq] at h1
  obtain ⟨_,_,_,rfl⟩:=h1
  exact .same (by omega)
 ·obtain ⟨h1,rfl⟩:=e9 h
  unfold TI at h1
  split at h1
  ·split at h1
   ·rename_i hσ
    split at h1
    ·cases h1;exact .set _ (by omega) hσ rfl
    ·cases h1;exact .same (by omega)
   ·cases h1
  ·cases h1
 ·split at h
  ·obtain ⟨h1,rfl⟩:=e9 h
   unfold jB at h1
   split at h1
   ·split at h1
    ·split at h1
     ·split at h1
      ·split at h1
       ·split at h1
        ·split at h1
         ·cases h1;exact .new _ (by omega)
         ·cases h1
        ·split at h1
         ·cases h1;exact .same (by omega)
         ·split at h1
          ·cases h1;exact .new _ (by omega)
          ·cases h1
        ·cases h1
       ·split at h1
        ·rename_i hσ
         split at h1
         ·cases h1
          exact (qZ.set (n':=n) none (Nat.le_refl _) hσ rfl).trans (.new _ (by omega))
         ·cases h1
        ·cases h1
       ·cases h1
      ·cases h1
     ·cases h1
    ·cases h1
   ·unfold uL at h1
    split at h1
    ·split at h1
     ·split at h1
      ·split at h1
       ·split at h1
        ·rename_i hσ
         split at h1
         ·cases h1
          exact (qZ.set (n':=n) none (Nat.le_refl _) hσ rfl).trans (.new _ (by omega))
         ·cases h1
        ·cases h1
       ·split at h1
        ·split at h1
         ·cases h1;exact .same (by omega)
         ·split at h1
          ·cases h1;exact .same (by omega)
          ·cases h1
        ·cases h1
       ·cases h1
      ·cases h1
     ·cases h1
    ·cases h1
  ·unfold AAK at h
   split at h
   ·rename_i r hcf
    cases h
    exact AWJ hh hcf
   ·simp only[Option.map_eq_some_iff,Prod.mk.injEq] at h
    obtain ⟨_,_,_,rfl,rfl⟩:=h
    exact .same (Nat.le_refl _)
  ·obtain ⟨h1,rfl⟩:=e9 h
   unfold R5 at h1
   split at h1
   case h_2=>cases h1
   split at h1
   case h_2=>cases h1
   split at h1
   case h_2=>cases h1
   rename_i hσ
   split at h1
   ·cases h1;exact .set _ (by omega) hσ rfl
   ·cases h1
  ·cases h
 ·cases h
end
section
variable (C : Combs) (P : Program) (E : Env) (nt : Nat)
def splitK (ops:Array Oper) (o:Oper) (st:St) (K:St→Prop):Prop:=match o.guard with
 | none=>K st
 | some (j,_)=>match (ops[j]?).bind (·.dst) with
  | none=>K st
  | some t=>match st.s t with
   | .p (.v (.bool b))=>aD b (K ⟨bY st.s t (.p (.v (.bool true))),st.σ,st.n⟩) (K ⟨bY st.s t (.p (.v (.bool false))),st.σ,st.n⟩)
   | _=>K st
def FP (st:St) (dst:Option Tmp) (d:D) (σ':Nat→Option bB) (n':Nat) (K:St→Prop):Prop:=match q9 nt st dst d σ' n' with
 | some st'=>K st'
 | none=>C.bad 201
def BN (ops:Array Oper) (o:Oper) (st:St) (K:St→Prop):Prop :=
 match e8 ops st.s o with
 | some true=>match eG E o.op with
  | true=>qvS C P E st.n st.σ st.s (cB true st.s) o.op fun d=>FP C nt st o.dst d st.σ st.n K
  | false=>nvS C P E st.σ (cB true st.s) st.n o.op fun d σ' n'=>FP C nt st o.dst d σ' n' K
 | some false=>FP C nt st o.dst (.p (.v undef)) st.σ st.n K
 | none=>C.bad 202
end
def BFM (A:Nat→Bool) (st st':St):Prop:=∀ i,A i=false→st'.s i=st.s i
structure Fr (A:Nat→Bool) (st st':St):Prop where
 s:BFM A st st'
 b:qZ st.σ st.n st'.σ st'.n
theorem Fr.refl (A:Nat→Bool) (st:St):Fr A st st:=⟨fun _ _=>rfl,qZ.refl _ _⟩
theorem Fr.trans {A:Nat→Bool} {st st' st'':St} (h:Fr A st st') (h':Fr A st' st''):Fr A st st'':=⟨fun i hi=>(h'.s i hi).trans (h.s i hi),h.b.trans h'.b⟩
theorem Fr.mono {A B:Nat→Bool} {st st':St} (h:Fr A st st') (hab:∀ i,B i=false→A i=false):Fr B st st':=⟨fun i hi=>h.s i (hab i hi),h.b⟩
section
variable {P : Program} {E : Env} {nt : Nat} {ops : Array Oper}
theorem r5 {o:Oper} {st:St} {K:St→Prop} (h:splitK ops o st K):K st:=by
 unfold splitK at h
 split at h
 ·exact h
 ·split at h
  ·exact h
  ·rename_i t ht
   split at h
   ·rename_i b hb
    have key:∀ c,b=c→(⟨bY st.s t (.p (.v (.bool c))),st.σ,st.n⟩:St)=st:=by
     intro c hc
     subst hc
     have:bY st.s t (.p (.v (.bool b)))=st.s:=by
      funext i
      by_cases e:i=t
      ·simp_all
      ·rw[bK _ _ e]
     rw[this]
    cases b with
    | true=>rw[←key true rfl];exact h
    | false=>rw[←key false rfl];exact h
   ·exact h
theorem gR {st:St} {dst:Option Tmp} {d:D} {σ':Nat→Option bB} {n':Nat} {K:St→Prop} (h:FP nF nt st dst d σ' n' K):∃ st',q9 nt st dst d σ' n'=some st'∧K st':=by
 unfold FP at h
 split at h
 ·simp_all
 ·exact h.elim
theorem jG {o:Oper} {st:St} {K:St→Prop} (h:BN nF P E nt ops o st K):∃ st',eZ P E nt ops o st=some st'∧K st':=by
 unfold BN at h
 unfold eZ
 split at h
 ·rename_i hg
  split at h
  ·rename_i hq
   obtain ⟨d,h1,h2⟩:=A1J h
   obtain ⟨st',h3,h4⟩:=gR h2
   exact ⟨st',by simp only[hq,if_true,gW,hg,h1,h3],h4⟩
  ·obtain ⟨d,σ',n',h1,h2⟩:=A0M h
   obtain ⟨st',h3,h4⟩:=gR h2
   simp_all
 ·rename_i hg
  obtain ⟨st',h3,h4⟩:=gR h
  refine ⟨st',?_,h4⟩
  by_cases hq:eG E o.op=true
  ·simp only[hq,if_true,gW,hg,h3]
  ·simp_all
 ·exact h.elim
theorem nA {st st':St} {dst:Option Tmp} {d:D} {σ':Nat→Option bB} {n':Nat} {A:Nat→Bool} (h:q9 nt st dst d σ' n'=some st') (hA:∀ t,dst=some t→A t=true) (hf:qZ st.σ st.n σ' n'):Fr A st st':=by
 obtain ⟨_,rfl⟩:=rU h
 refine ⟨fun i hi=>?_,hf⟩
 cases dst with
 | none=>rfl
 | some t=>exact bK _ _ fun e=>by subst e;rw[hA _ rfl] at hi;cases hi
theorem lF (hh:eH E) {o:Oper} {st st':St} {A:Nat→Bool} (h:eZ P E nt ops o st=some st') (hA:∀ t,o.dst=some t→A t=true):Fr A st st':=by
 unfold eZ at h
 split at h
 ·split at h
  ·exact nA h hA (qZ.refl _ _)
  ·cases h
 ·split at h
  ·split at h
   ·rename_i d σ' n' hn
    exact nA h hA (BEW hh hn)
   ·cases h
  ·exact nA h hA (qZ.refl _ _)
  ·cases h
end
end Go.Pv
