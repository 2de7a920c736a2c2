/-
  The symbolic executor, part c: operations that write or make memory; a whole region.
-/
import Derived.Test.YtcnfagefgkblkaaGreatDoorVskb
set_option linter.defProp false
set_option linter.unusedSimpArgs false
namespace Go.Pv
open Go Go.RowKit
abbrev KN:=D→(Nat→Option a6)→Nat→Prop
section
variable (C : Combs) (P : Program) (E : Env)
def A4U (c:Nat) (x:Option (D×(Nat→Option a6)×Nat)) (K:KN):Prop:=match x with
 | some (d,σ',n')=>K d σ' n'
 | none=>C.bad c
def AG3 (σ:Nat→Option a6) (n:Nat) (t:TypeId) (a v:D) (K:KN):Prop :=
 match a with
 | .ptr k i j=>match σ k with
  | some (.arr ro za rows)=>match ro,tsz? P t,jW v.cells with
   | false,some z,some ts=>match decide (0<z)&&ts.length == z&&ts.all T.leaf with
    | true=>C.row rows i fun r=>C.wP (decide (j+z≤r.length)) (K (.p (.v undef)) (bX σ k (some (.arr false za (rows.set i (bO r j ts))))) (n+1))
    | false=>C.bad 101
   | _,_,_=>C.bad 102
  | _=>A4U C 103 (one n ((j1 P σ t a v).map fun σ'=>(.p (.v undef),σ'))) K
 | _=>C.bad 104
def BEP (a b:List (List T)):List (List T):=a++b
def KA (σ:Nat→Option a6) (n:Nat) (u e:TypeId) (s x:D) (K:KN):Prop :=
 match P.underlying u,x with
 | some .string,.p (.v (.string b))=>match tsz? P e,tby? P e,tz? P e,s with
  | some z,some by_,some zv,.own k₀=>match decide (z=1)&&zv.cells.size == 1&&zv.cells.all Value.oneCell',σ k₀ with
   | true,some (.arr false z' rs)=>C.wP (decide (z'=1)&&decide ((rs.length+b.size)*by_≤140737488355328)&&decide (rs.length+b.size≤140737488355328)) (K (.own n) (bX (bX σ k₀ none) n (some (.arr false 1 (rs++cU b)))) (n+1))
   | _,_=>C.bad 118
  | _,_,_,_=>C.bad 119
 | _,_=>C.bad 117
def SA (σ:Nat→Option a6) (n:Nat) (t u:TypeId) (s x:D) (K:KN):Prop :=
 match decide (t=u),kX P t with
 | true,some e =>
  match tsz? P e,tby? P e,tz? P e,FU σ x with
  | some z,some by_,some zv,some xs =>
   match decide (0<z)&&zv.cells.size == z&&zv.cells.all Value.oneCell' with
   | true=>match s with
    | .p st=>match eW st with
     | some (full,[])=>C.wP (fS z xs&&full&&decide (xs.length*by_≤140737488355328)&&decide (xs.length≤140737488355328)) (K (.own n) (bX σ n (some (.arr false z xs))) (n+1))
     | some (full,r::rows)=>aD xs.isEmpty (K (.p st) σ (n+1)) (C.wP (full&&fS z (r::rows)&&fS z xs&&decide (((r::rows).length+xs.length)*by_≤140737488355328)&&decide ((r::rows).length+xs.length≤140737488355328)) (K (.own n) (bX σ n (some (.arr false z (BEP (r::rows) xs)))) (n+1)))
     | none=>C.bad 111
    | .own k₀=>match σ k₀ with
     | some (.arr ro z' rs)=>match ro with
      | false=>C.wP (decide (z'=z)&&fS z xs&&decide ((rs.length+xs.length)*by_≤140737488355328)&&decide (rs.length+xs.length≤140737488355328)) (K (.own n) (bX (bX σ k₀ none) n (some (.arr false z (rs++xs)))) (n+1))
      | true=>C.bad 112
     | _=>C.bad 113
    | _=>C.bad 114
   | false=>C.bad 115
  | _,_,_,_=>C.bad 116
 | false,some e=>KA C P σ n u e s x K
 | _,_=>C.bad 117
def AXC (σ:Nat→Option a6) (n:Nat) (t:TypeId) (len cap:D) (K:KN):Prop :=
 match kX P t with
 | some e =>
  match tsz? P e,tby? P e,tz? P e,len,cap with
  | some z,some by_,some zv,.p (.v (.int _ a)),.p (.v (.int _ b)) =>
   match decide (0<z)&&zv.cells.size == z&&zv.cells.all Value.oneCell' with
   | true=>C.wP ((decide (a=b)||decide (a=0))&&decide (0≤b)&&decide (b*by_≤140737488355328)&&decide (b≤140737488355328)) (K (.own n) (bX σ n (some (.arr false z (List.replicate a.toNat (zv.cells.toList.map .v))))) (n+1))
   | false=>C.bad 121
  | _,_,_,_,_=>C.bad 122
 | none=>C.bad 123
def A31 (σ:Nat→Option a6) (n:Nat) (t:TypeId) (x i v:D) (K:KN):Prop :=
 match P.underlying t with
 | some (.map kt _) =>
  match tM P kt,i,x with
  | some kd,.p (.v k),.map m =>
   match AK kd k,σ m with
   | true,some (.map ro es)=>match ro with
    | false=>C.opt _ (findD kd k es 0) fun r=>K (.p (.v undef)) (bX σ m (some (.map false (eZ es r k v)))) (n+1)
    | true=>C.bad 131
   | _,_=>C.bad 132
  | _,_,_=>C.bad 133
 | _=>C.bad 134
def AXO (σ:Nat→Option a6) (n:Nat) (isString:Bool) (d:D) (K:KN):Prop :=
 match isString,d with
 | true,.it k=>match σ k with
  | some (.jV s pos)=>aD (decide (pos<s.size)) (K (.p (.v (.tuple #[.bool true,.int .i64 pos,.int .i32 (Utf8.decode s pos).1]))) (bX σ k (some (.jV s (pos+(Utf8.decode s pos).2)))) (n+1)) (K (.p (.v (.tuple #[.bool false]))) σ (n+1))
  | _=>C.bad 141
 | _,_=>C.bad 142
def AUG (fid:FuncId):Option Sy:=match P.funcs[fid]? with
 | some fn=>match fn.resultTypes.toList with
  | [t]=>match kX P t with
   | some e=>UW P e
   | none=>none
  | _=>none
 | none=>none
def A6B (z:Nat) (g:List (List T)→Option (List (List T))) (σ:Nat→Option a6) (n:Nat) (args:List D) (K:KN):Prop :=
 match args with
 | [.own k]=>match σ k with
  | some (.arr ro z' rows)=>match ro,decide (z'=z) with
   | false,true=>C.opt (List (List T)) (g rows) fun rows'=>K (.p (.v (.tuple #[]))) (bX σ k (some (.arr false z rows'))) (n+1)
   | _,_=>C.bad 155
  | _=>C.bad 156
 | _=>C.bad 157
def A5Y (z:Nat) (g:List (List T)→List T→Option (List (List T))) (o:Option Sy) (σ:Nat→Option a6) (n:Nat) (args:List D) (K:KN):Prop :=
 match o,args with
 | some r,.own k::rest=>match σ k,jW rest with
  | some (.arr ro z' rows),some ts=>match ro,decide (z'=z)&&decide (r.w=z) with
   | false,true=>C.fresh r (g rows ts) fun l=>K (.own n) (bX (bX σ k none) n (some (.arr false r.w (l.map r.enc)))) (n+1)
   | _,_=>C.bad 165
  | _,_=>C.bad 166
 | _,_=>C.bad 167
def BDC (z y:Nat) (σ:Nat→Option a6) (n:Nat) (args:List D) (K:KN):Prop :=
 match args with
 | [.own k]=>match σ k with
  | some (.arr _ z' rows)=>match decide (z'=z) with
   | true=>C.wP (decide (rows.length*y≤140737488355328)&&decide (rows.length≤140737488355328)) (K (.own n) (bX σ n (some (.arr false z rows))) (n+1))
   | false=>C.bad 168
  | _=>C.bad 169
 | [.p t]=>match eW t with
  | some (_,rows)=>C.wP ((rows.all fun r=>decide (r.length=z))&&decide (rows.length*y≤140737488355328)&&decide (rows.length≤140737488355328)) (K (.own n) (bX σ n (some (.arr false z rows))) (n+1))
  | none=>C.bad 170
 | _=>C.bad 171
def AZY (z y:Nat) (σ:Nat→Option a6) (n:Nat) (args:List D) (K:KN):Prop :=
 match args with
 | [.p (.v (.slice none 0 0)),.p (.v (.int .i64 m))]=>C.wP (decide (0≤m)&&decide (m.toNat*y≤140737488355328)&&decide (m.toNat≤140737488355328)) (K (.own n) (bX σ n (some (.arr false z []))) (n+1))
 | _=>C.bad 172
def AW5:Sy→Nat→Option Nat
 | .pr a b,c=>match Nat.blt c a.w with
  | true=>AW5 a c
  | false=>AW5 b (c-a.w)
 | .li r,0=>some r.w
 | _,_=>none
def A6A (c:Nat) (g:List T→Option T) (fid:FuncId) (σ:Nat→Option a6) (n:Nat) (args:List D) (K:KN):Prop :=
 match QN P fid,jW args with
 | some [(true,sy)],some ts=>match AW5 sy c with
  | some z=>C.call [(true,sy)] (g ts) fun y=>match (sy.enc y)[c]? with
   | some (.sl _ rows)=>C.wP (!rows.isEmpty&&fS z rows) (K (.agg (((sy.enc y).map D.p).set c (.own n))) (bX σ n (some (.arr false z rows))) (n+1))
   | _=>C.bad 175
  | none=>C.bad 176
 | _,_=>C.bad 177
def A6D (fid:FuncId):Option Sy:=match P.funcs[fid]? with
 | some fn=>match fn.params.toList with
  | t::_=>match P.underlying t with
   | some (.pointer e)=>UW P e
   | _=>none
  | []=>none
 | none=>none
theorem QO (s:Bool×Sy) (ss:Sh) (y:Sh.den (s::ss)):AY4 (Sh.iZ (s::ss) y)=Sh.enc (s::ss) y:=by
 cases ss with
 | nil=>rfl
 | cons a l=>cases l<;>rfl
def A52 (g:List T→Option T) (fid:FuncId) (σ:Nat→Option a6) (n:Nat) (args:List D) (K:KN):Prop :=
 match args with
 | .ptr k i j::rest=>match decide (i=0)&&decide (j=0),σ k with
  | true,some (.rows ro [ds])=>match ro,jW ds,jW rest with
   | false,some cs,some ts=>match A6D P fid,QN P fid with
    | some sy,some (s::ss)=>match decide (sy.w=cs.length) with
     | true=>C.call ((true,sy)::s::ss) (g (.agg cs::ts)) fun y=>K (.p (Sh.enc (s::ss) y.2)) (bX σ k (some (.rows false [(sy.enc y.1).map .p]))) (n+1)
     | false=>C.bad 181
    | _,_=>C.bad 182
   | _,_,_=>C.bad 183
  | _,_=>C.bad 184
 | _=>C.bad 185
def A6I:List TypeId→Option Sh
 | []=>some []
 | t::r=>match UW P t,A6I r with
  | some y,some s=>some ((true,y)::s)
  | _,_=>none
def A5T (vt:List TypeId) (g:List T→Option T) (fid:FuncId) (σ:Nat→Option a6) (n:Nat) (args:List D) (K:KN):Prop :=
 match SG fid args σ with
 | some (ins,rows,kk,σ1)=>match A6I P vt,QN P fid with
  | some (v::vs),some (s::ss)=>C.call (v::(vs++s::ss)) (g ins) fun y=>match AE3 rows (Sh.iZ (v::(vs++s::ss)) y) with
   | true=>K (.p (AY4 ((Sh.iZ (v::(vs++s::ss)) y).drop rows.length))) (AZR σ1 kk (Sh.iZ (v::(vs++s::ss)) y)) (n+1)
   | false=>C.bad 191
  | _,_=>C.bad 192
 | none=>C.bad 193
def A6E (g:List T→Option T) (fid:FuncId) (σ:Nat→Option a6) (n:Nat) (args:List D) (K:KN):Prop :=
 match AI1 args σ with
 | some (k,cs,ts,σ1)=>match A6D P fid,QN P fid with
  | some sy,some (s::ss)=>match Nat.beq sy.w cs.length with
   | true=>C.call ((true,sy)::s::ss) (g (.agg cs::ts)) fun y=>K (.p (Sh.enc (s::ss) y.2)) (bX σ1 k (some (.rows false [(sy.enc y.1).map .p]))) (n+1)
   | false=>C.bad 194
  | _,_=>C.bad 195
 | none=>C.bad 196
def A5X (g:List T→Option T) (fid:FuncId) (σ:Nat→Option a6) (n:Nat) (args:List D) (K:KN):Prop :=
 match HA σ (args.flatMap A58) args with
 | some (args',σ1)=>match args'.mapM (gL (fun _=>none) 2),QN P fid with
  | some ts,some s=>C.call s (g (ts.map (T.canon 4))) fun y=>K (.p (Sh.enc s y)) σ1 (n+1)
  | _,_=>C.bad 197
 | none=>C.bad 198
def AEA (σ:Nat→Option a6) (n:Nat) (f:D) (args:List D) (K:KN):Prop :=
 match iW f with
 | some (fid,a,b)=>match E fid with
  | some (.perm z g)=>A6B C z g σ n (a++args++b) K
  | some (.grow z g)=>A5Y C z g (AUG P fid) σ n (a++args++b) K
  | some (.dup z y)=>BDC C z y σ n (a++args++b) K
  | some (.room z y)=>AZY C z y σ n (a++args++b) K
  | some (.A3W g)=>A52 C P g fid σ n (a++args++b) K
  | some (.A7O vt g)=>A5T C P vt g fid σ n (a++args++b) K
  | some (.BA4 g)=>A6E C P g fid σ n (a++args++b) K
  | some (.AWL g)=>A5X C P g fid σ n (a++args++b) K
  | some (.part c g)=>A6A C P c g fid σ n (a++args++b) K
  | _=>match E fid,AUG P fid,jW (a++args++b) with
   | some (.fresh g),some r,some ts=>C.fresh r (g ts) fun l=>aD l.isEmpty (K (.p (.sl false [])) σ (n+1)) (K (.own n) (bX σ n (some (.arr false r.w (l.map r.enc)))) (n+1))
   | some (.LC g),some r,some ts=>C.fresh r (g ts) fun l=>aD l.isEmpty (K (.p (.sl true [])) σ (n+1)) (C.wP ((l.map r.enc).all fun x=>x.all T.flat) (K (.own n) (bX σ n (some (.arr false r.w (l.map r.enc)))) (n+1)))
   | _,_,_=>C.bad 151
 | none=>C.bad 152
def AT4 (σ:Nat→Option a6) (n:Nat) (t:TypeId) (d s:D) (K:KN):Prop :=
 match kX P t with
 | some e=>match tsz? P e,FU σ s,d with
  | some z,some xs,.own k=>match σ k with
   | some (.arr ro z' rs)=>match ro,decide (z'=z) with
    | false,true=>C.wP (decide (xs.length=rs.length)&&decide (0<xs.length)&&fS z xs) (K (.p (.v (.int .i64 (xs.length:Int)))) (bX σ k (some (.arr false z xs))) (n+1))
    | _,_=>C.bad 163
   | _=>C.bad 164
  | _,_,_=>C.bad 173
 | none=>C.bad 174
def nvS (σ:Nat→Option a6) (s:Nat→D) (n:Nat) (op:Op) (K:KN):Prop :=
 match op with
 | .store t a v=>AG3 C P σ n t (ev s a) (ev s v) K
 | .makeSlice t l c=>AXC C P σ n t (ev s l) (ev s c) K
 | .mapUpdate t m i v=>A31 C P σ n t (ev s m) (ev s i) (ev s v) K
 | .insert t m i v=>A31 C P σ n t (ev s m) (ev s i) (ev s v) K
 | .next it isString=>AXO C σ n isString (ev s it) K
 | .call c =>
  match c.callee,c.args.toList,c.argTypes.toList with
  | .builtin .append,[x,y],[t,u]=>SA C P σ n t u (ev s x) (ev s y) K
  | .builtin .copy,[x,y],[t,_]=>AT4 C P σ n t (ev s x) (ev s y) K
  | .value f,as,_=>AEA C P E σ n (ev s f) (as.map (ev s)) K
  | _,_,_=>C.bad 161
 | op=>A4U C 162 (nv P E σ s n op) K
end
section
variable {P : Program} {E : Env}
theorem QH {c:Nat} {x:Option (D×(Nat→Option a6)×Nat)} {K:KN} (h:A4U mB c x K):∃ d σ' n',x=some (d,σ',n')∧K d σ' n':=by
 unfold A4U at h
 split at h
 ·exact ⟨_,_,_,rfl,h⟩
 ·exact h.elim
theorem AAY {σ:Nat→Option a6} {n:Nat} {t:TypeId} {a v:D} {K:KN} (h:AG3 mB P σ n t a v K):∃ d σ' n',one n ((j1 P σ t a v).map fun σ'=>(D.p (.v undef),σ'))=some (d,σ',n')∧K d σ' n':=by
 unfold AG3 at h
 split at h
 ·rename_i k i j
  split at h
  ·rename_i ro za rows hσ
   split at h
   ·rename_i z ts hz hts
    split at h
    ·rename_i hc
     simp only[Bool.and_eq_true,decide_eq_true_eq,beq_iff_eq] at hc
     obtain ⟨r,hr,hb,hk⟩:=h
     have hb:j+z≤r.length:=of_decide_eq_true hb
     refine ⟨_,_,_,?_,hk⟩
     simp only[one,j1,hσ,hz,hr,hts]
     rw[if_pos ⟨hc.1.1,hc.1.2,hb,hc.2⟩]
     rfl
    ·exact h.elim
   ·exact h.elim
  ·exact QH h
 ·exact h.elim
theorem N0 {σ:Nat→Option a6} {n:Nat} {t u e:TypeId} {s x:D} {K:KN} (he:kX P t=some e) (h:KA mB P σ n u e s x K):∃ d σ' n',one n (sQ P σ n t u s x)=some (d,σ',n')∧K d σ' n':=by
 unfold KA at h
 split at h
 ·rename_i b hu
  split at h
  ·rename_i z by_ zv k₀ hz hby hzv
   split at h
   ·rename_i z' rs hc hσ
    simp only[Bool.and_eq_true,decide_eq_true_eq,beq_iff_eq] at hc
    obtain ⟨hb,hk⟩:=h
    simp only[Bool.and_eq_true,decide_eq_true_eq] at hb
    refine ⟨_,_,_,?_,hk⟩
    simp only[one,sQ,he,hu,hz,hby,hzv]
    rw[if_pos ⟨hc.1.1,hc.1.2,hc.2⟩]
    simp only[hσ]
    rw[if_pos ⟨hb.1.1,hb.1.2,hb.2⟩]
    rfl
   ·exact h.elim
  ·exact h.elim
 ·exact h.elim
theorem SB {σ:Nat→Option a6} {n:Nat} {t u:TypeId} {s x:D} {K:KN} (h:SA mB P σ n t u s x K):∃ d σ' n',one n (iB P σ n t u s x)=some (d,σ',n')∧K d σ' n':=by
 unfold SA at h
 split at h
 ·rename_i e htu he
  have htu:t=u:=of_decide_eq_true htu
  split at h
  ·rename_i z by_ zv xs hz hby hzv hxs
   split at h
   ·rename_i hc
    simp only[Bool.and_eq_true,decide_eq_true_eq,beq_iff_eq] at hc
    split at h
    ·rename_i st
     split at h
     ·rename_i full hrow
      obtain ⟨hb,hk⟩:=h
      simp only[Bool.and_eq_true,decide_eq_true_eq] at hb
      refine ⟨_,_,_,?_,hk⟩
      simp only[one,iB,if_pos htu,he,hz,hby,hzv,hxs]
      rw[if_pos ⟨hc.1.1,hc.1.2,hc.2,hb.1.1.1⟩]
      simp only[hrow]
      rw[if_pos ⟨hb.1.1.2,hb.1.2,hb.2⟩]
      rfl
     ·rename_i full r rows hrow
      rw[pH] at h
      cases xs with
      | nil =>
       refine ⟨_,_,_,?_,h.1 rfl⟩
       simp only[one,iB,if_pos htu,he,hz,hby,hzv,hxs]
       rw[if_pos ⟨hc.1.1,hc.1.2,hc.2,rfl⟩]
       simp only[hrow]
       rfl
      | cons x0 xs =>
       obtain ⟨hb,hk⟩:=h.2 rfl
       simp only[Bool.and_eq_true,decide_eq_true_eq] at hb
       refine ⟨_,_,_,?_,hk⟩
       simp only[one,iB,if_pos htu,he,hz,hby,hzv,hxs]
       rw[if_pos ⟨hc.1.1,hc.1.2,hc.2,hb.1.1.2⟩]
       simp only[hrow]
       rw[if_pos ⟨hb.1.1.1.1,hb.1.1.1.2,hb.1.2,hb.2⟩]
       rfl
     ·exact h.elim
    ·rename_i k₀
     split at h
     ·rename_i ro z' rs hσ
      split at h
      ·obtain ⟨hb,hk⟩:=h
       simp only[Bool.and_eq_true,decide_eq_true_eq] at hb
       refine ⟨_,_,_,?_,hk⟩
       simp only[one,iB,if_pos htu,he,hz,hby,hzv,hxs]
       rw[if_pos ⟨hc.1.1,hc.1.2,hc.2,hb.1.1.2⟩]
       simp only[hσ]
       rw[if_pos ⟨hb.1.1.1,hb.1.2,hb.2⟩]
       rfl
      ·exact h.elim
     ·exact h.elim
    ·exact h.elim
   ·exact h.elim
  ·exact h.elim
 ·rename_i e htu he
  obtain ⟨d,σ',n',h1,h2⟩:=N0 (t:=t) he h
  refine ⟨d,σ',n',?_,h2⟩
  unfold iB
  rw[if_neg (of_decide_eq_false htu)]
  exact h1
 ·exact h.elim
theorem AE9 {σ:Nat→Option a6} {n:Nat} {t:TypeId} {a b:D} {K:KN} (h:AXC mB P σ n t a b K):∃ d σ' n',one n (P6 P σ n t a b)=some (d,σ',n')∧K d σ' n':=by
 unfold AXC at h
 split at h
 ·rename_i e he
  split at h
  ·rename_i z by_ zv k1 x k2 y hz hby hzv
   split at h
   ·rename_i hc
    simp only[Bool.and_eq_true,decide_eq_true_eq,beq_iff_eq] at hc
    obtain ⟨hb,hk⟩:=h
    simp only[Bool.and_eq_true,Bool.or_eq_true,decide_eq_true_eq] at hb
    refine ⟨_,_,_,?_,hk⟩
    simp only[one,P6,he,hz,hby,hzv]
    rw[if_pos ⟨hb.1.1.1,hb.1.1.2,hb.1.2,hb.2,hc.1.1,hc.1.2,hc.2⟩]
    rfl
   ·exact h.elim
  ·exact h.elim
 ·exact h.elim
theorem P9 {σ:Nat→Option a6} {n:Nat} {t:TypeId} {x i v:D} {K:KN} (h:A31 mB P σ n t x i v K):∃ d σ' n',one n ((ZV P σ t x i v).map fun σ'=>(D.p (.v undef),σ'))=some (d,σ',n')∧K d σ' n':=by
 unfold A31 at h
 split at h
 ·rename_i kt et hu
  split at h
  ·rename_i kd k m hk
   split at h
   ·rename_i ro es hkey hσ
    split at h
    ·obtain ⟨r,hr,hk'⟩:=h
     refine ⟨_,_,_,?_,hk'⟩
     simp only[one,ZV,hu,hk,hkey,hσ,hr]
     rfl
    ·exact h.elim
   ·exact h.elim
  ·exact h.elim
 ·exact h.elim
theorem AFB {σ:Nat→Option a6} {n:Nat} {b:Bool} {x:D} {K:KN} (h:AXO mB σ n b x K):∃ d σ' n',one n (QB σ b x)=some (d,σ',n')∧K d σ' n':=by
 unfold AXO at h
 split at h
 ·rename_i k
  split at h
  ·rename_i s pos hσ
   rw[pH] at h
   by_cases hp:pos<s.size
   ·refine ⟨_,_,_,?_,h.1 (by simpa using hp)⟩
    simp only[one,QB,hσ]
    rw[if_pos hp]
    rfl
   ·refine ⟨_,_,_,?_,h.2 (by simpa using hp)⟩
    simp only[one,QB,hσ]
    rw[if_neg hp]
    rfl
  ·exact h.elim
 ·exact h.elim
theorem XE {σ:Nat→Option a6} {n:Nat} {f:D} {args:List D} {K:KN} (h:AEA mB P E σ n f args K):∃ d σ' n',j3 E σ n f args=some (d,σ',n')∧K d σ' n':=by
 unfold AEA at h
 split at h
 ·rename_i fid a b hc
  split at h
  ·rename_i z g hE
   unfold A6B at h
   split at h
   ·rename_i k hargs
    split at h
    ·rename_i ro z' rows hσ
     split at h
     ·rename_i hz
      obtain ⟨rows',h1,h2⟩:=h
      refine ⟨_,_,_,?_,h2⟩
      simp only[j3,hc,hE,XJ,hargs,hσ,hz,h1,Option.map_some]
     ·exact h.elim
    ·exact h.elim
   ·exact h.elim
  ·rename_i z g hE
   unfold A5Y at h
   split at h
   ·rename_i r k rest hr hargs
    split at h
    ·rename_i ro z' rows ts hσ hts
     split at h
     ·rename_i hz
      obtain ⟨l,h1,h2⟩:=h
      rw[Bool.and_eq_true] at hz
      have hw:r.w=z:=of_decide_eq_true hz.2
      rw[hw] at h2
      refine ⟨_,_,_,?_,h2⟩
      simp only[j3,hc,hE,lS,hargs,hσ,hts,hz.1,h1,Option.map_some]
     ·exact h.elim
    ·exact h.elim
   ·exact h.elim
  ·rename_i z g hE
   unfold BDC at h
   split at h
   ·rename_i k hargs
    split at h
    ·rename_i ro z' rows hσ
     split at h
     ·rename_i hz
      obtain ⟨h1,h2⟩:=h
      refine ⟨_,_,_,?_,h2⟩
      rw[Bool.and_eq_true] at h1
      simp only[j3,hc,hE,AB,hargs,hσ,hz,h1.1,h1.2,Bool.and_true]
     ·exact h.elim
    ·exact h.elim
   ·rename_i t hargs
    split at h
    ·rename_i full rows hr
     obtain ⟨h1,h2⟩:=h
     refine ⟨_,_,_,?_,h2⟩
     simp only[j3,hc,hE,AB,hargs,hr,h1]
    ·exact h.elim
   ·exact h.elim
  ·rename_i z g hE
   unfold AZY at h
   split at h
   ·rename_i m hargs
    obtain ⟨h1,h2⟩:=h
    refine ⟨_,_,_,?_,h2⟩
    simp only[j3,hc,hE,XL,hargs,h1]
   ·exact h.elim
  ·rename_i g hE
   unfold A52 at h
   split at h
   ·rename_i k i j rest hargs
    split at h
    ·rename_i ro ds hij hσ
     split at h
     ·rename_i cs ts hcs hts
      split at h
      ·rename_i sy s ss hsy hs
       split at h
       ·rename_i hw
        obtain ⟨y,h1,h2⟩:=h
        refine ⟨_,_,_,?_,h2⟩
        have h1':g (.agg cs::ts)=some (.bU (.agg (sy.enc y.1)::Sh.iZ (s::ss) y.2)):=h1
        have hl:decide ((sy.enc y.1).length=cs.length)=true:=by rw[Sy.cP];exact hw
        simp only[j3,hc,hE,XI,hargs,hij,hσ,hcs,hts,h1',hl,QO]
       ·exact h.elim
      ·exact h.elim
     ·exact h.elim
    ·exact h.elim
   ·exact h.elim
  ·rename_i vt g hE
   unfold A5T at h
   split at h
   ·rename_i ins rows kk σ1 hin
    split at h
    ·rename_i v vs s ss hv hs
     obtain ⟨y,h1,h2⟩:=h
     split at h2
     ·rename_i hl
      refine ⟨_,_,_,?_,h2⟩
      have h1':g ins=some (.bU (Sh.iZ (v::(vs++s::ss)) y)):=by
       rw[h1];cases vs<;>rfl
      simp only[j3,hc,hE,XH,hin,h1',hl]
     ·exact h2.elim
    ·exact h.elim
   ·exact h.elim
  ·rename_i g hE
   unfold A6E at h
   split at h
   ·rename_i k cs ts σ1 hin
    split at h
    ·rename_i sy s ss hsy hs
     split at h
     ·rename_i hw
      obtain ⟨y,h1,h2⟩:=h
      refine ⟨_,_,_,?_,h2⟩
      have h1':g (.agg cs::ts)=some (.bU (.agg (sy.enc y.1)::Sh.iZ (s::ss) y.2)):=h1
      have hl:Nat.beq (sy.enc y.1).length cs.length=true:=by rw[Sy.cP];exact hw
      simp only[j3,hc,hE,XK,hin,h1',hl,QO]
     ·exact h.elim
    ·exact h.elim
   ·exact h.elim
  ·rename_i g hE
   unfold A5X at h
   split at h
   ·rename_i ps σ1 hin
    split at h
    ·rename_i ts s hts hs
     obtain ⟨y,h1,h2⟩:=h
     refine ⟨_,_,_,?_,h2⟩
     simp only[j3,hc,hE,BQ,hin,hts,h1,Option.map_some]
    ·exact h.elim
   ·exact h.elim
  ·rename_i c g hE
   unfold A6A at h
   split at h
   ·rename_i sy ts hsh hts
    split at h
    ·rename_i z hz
     obtain ⟨y,hg,h⟩:=h
     split at h
     ·rename_i fl rows hcc
      obtain ⟨h1,h2⟩:=h
      refine ⟨_,_,_,?_,h2⟩
      rw[Bool.and_eq_true] at h1
      have hg':g ts=some (.agg (sy.enc y)):=hg
      cases rows with
      | nil=>cases h1.1
      | cons r rows =>
       have hr:r.length=z:=by
        have:=List.all_eq_true.1 h1.2 r List.mem_cons_self
        simpa using this
       subst hr
       simp only[j3,hc,hE,hts,hg',hcc]
     ·exact h.elim
    ·exact h.elim
   ·exact h.elim
  ·split at h
   ·rename_i g r ts hE hr hts
    obtain ⟨l,h1,h2⟩:=h
    rw[pH] at h2
    cases l with
    | nil =>
     refine ⟨_,_,_,?_,h2.1 rfl⟩
     simp only[j3,hc,hE,hts,h1]
     rfl
    | cons x l =>
     refine ⟨_,_,_,?_,h2.2 rfl⟩
     simp only[j3,hc,hE,hts,h1,List.map_cons,Sy.cP]
   ·rename_i g r ts hE hr hts
    obtain ⟨l,h1,h2⟩:=h
    rw[pH] at h2
    have hm:(a++args++b).mapM (gL σ 4)=some ts:=by rw[jJ hts];exact LG σ 4 ts
    cases l with
    | nil =>
     refine ⟨_,_,_,?_,h2.1 rfl⟩
     simp only[j3,hc,hE,hm,h1]
     rfl
    | cons x l =>
     obtain ⟨h3,h4⟩:=h2.2 rfl
     refine ⟨_,_,_,?_,h4⟩
     rw[List.map_cons] at h3
     simp only[j3,hc,hE,hm,h1,List.map_cons,Sy.cP,h3]
   ·exact h.elim
 ·exact h.elim
theorem ADJ {σ:Nat→Option a6} {n:Nat} {t:TypeId} {d s:D} {K:KN} (h:AT4 mB P σ n t d s K):∃ d' σ' n',one n (O0 P σ t d s)=some (d',σ',n')∧K d' σ' n':=by
 unfold AT4 at h
 split at h
 case h_2=>exact h.elim
 rename_i e he
 split at h
 case h_2=>exact h.elim
 rename_i z xs k hz hx
 split at h
 case h_2=>exact h.elim
 rename_i ro z' rs hσ
 split at h
 case h_2=>exact h.elim
 rename_i hzz
 obtain ⟨hb,hk⟩:=h
 simp only[Bool.and_eq_true,decide_eq_true_eq] at hb
 refine ⟨_,_,_,?_,hk⟩
 simp only[one,O0,he,hz,hx,hσ]
 rw[if_pos ⟨of_decide_eq_true hzz,hb.1.1,hb.1.2,hb.2⟩]
 rfl
theorem AXS {σ:Nat→Option a6} {s:Nat→D} {n:Nat} {op:Op} {K:KN} (h:nvS mB P E σ s n op K):∃ d σ' n',nv P E σ s n op=some (d,σ',n')∧K d σ' n':=by
 unfold nvS at h
 split at h
 ·exact AAY h
 ·exact AE9 h
 ·exact P9 h
 ·exact P9 h
 ·exact AFB h
 ·rename_i c
  split at h
  ·rename_i x y t u hc ha hat
   obtain ⟨d,σ',n',h1,h2⟩:=SB h
   refine ⟨d,σ',n',?_,h2⟩
   simp only[nv,hc,ha,hat]
   exact h1
  ·rename_i x y t u hc ha hat
   obtain ⟨d,σ',n',h1,h2⟩:=ADJ h
   refine ⟨d,σ',n',?_,h2⟩
   simp only[nv,hc,ha,hat]
   exact h1
  ·rename_i f hc
   obtain ⟨d,σ',n',h1,h2⟩:=XE h
   refine ⟨d,σ',n',?_,h2⟩
   simp only[nv,hc,WM,h1]
  ·exact h.elim
 ·exact QH h
end
def pV (σ:Nat→Option a6) (n:Nat) (σ':Nat→Option a6) (n':Nat):Prop:=n≤n'∧∀ k x,k<n→σ k=some x→e9 x=false→σ' k=some x
theorem pV.refl (σ:Nat→Option a6) (n:Nat):pV σ n σ n:=⟨Nat.le_refl _,fun _ _ _ h _=>h⟩
theorem pV.trans {σ σ' σ'':Nat→Option a6} {n n' n'':Nat} (h:pV σ n σ' n') (h':pV σ' n' σ'' n''):pV σ n σ'' n'' :=
 ⟨Nat.le_trans h.1 h'.1,fun k x hk hx hw=>h'.2 k x (Nat.lt_of_lt_of_le hk h.1) (h.2 k x hk hx hw) hw⟩
theorem pV.new {σ:Nat→Option a6} {n n':Nat} (x:Option a6) (h:n≤n'):pV σ n (bX σ n x) n':=⟨h,fun k y hk hy _=>by rw[bE _ _ (by omega)];exact hy⟩
theorem pV.same {σ:Nat→Option a6} {n n':Nat} (h:n≤n'):pV σ n σ n':=⟨h,fun _ _ _ h _=>h⟩
theorem pV.set {σ:Nat→Option a6} {n n' m:Nat} {x₀:a6} (x:Option a6) (h:n≤n') (hm:σ m=some x₀) (hw:e9 x₀=true):pV σ n (bX σ m x) n':=⟨h,fun k y hk hy hy'=>by
 by_cases e:k=m
 ·subst e;rw[hm] at hy;cases hy;rw[hw] at hy';cases hy'
 ·rw[bE _ _ e];exact hy⟩
def e8 (E:Env):Prop:=∀ f g,E f≠some (.heap g)
section
variable {P : Program} {E : Env}
theorem eM {n:Nat} {x:Option (D×(Nat→Option a6))} {d:D} {σ':Nat→Option a6} {n':Nat} (h:one n x=some (d,σ',n')):x=some (d,σ')∧n'=n+1:=by
 unfold one at h
 cases x with
 | none=>cases h
 | some y=>obtain ⟨a,b⟩:=y;simp only[Option.map_some,Option.some.injEq,Prod.mk.injEq] at h;obtain ⟨rfl,rfl,rfl⟩:=h;exact ⟨rfl,rfl⟩
theorem wD:∀ {ps ps':List (Nat×D)} {σ σ1:Nat→Option a6} {n n':Nat},n≤n'→uI σ ps=some (ps',σ1)→pV σ n σ1 n'
 | [],ps',σ,σ1,n,n',hn,h=>by
  simp only[uI] at h
  cases h
  exact .same hn
 | p::ps,ps',σ,σ1,n,n',hn,h=>by
  obtain ⟨pi,pd⟩:=p
  unfold uI at h
  split at h
  ·rename_i e;cases e
  ·rename_i i k r e
   cases e
   split at h
   ·rename_i z rows hk
    simp only[Option.map_eq_some_iff,Prod.mk.injEq] at h
    obtain ⟨⟨_,_⟩,hg,_,rfl⟩:=h
    exact (pV.set (n':=n) none (Nat.le_refl _) hk rfl).trans (wD hn hg)
   ·cases h
  ·rename_i i d r _ e
   cases e
   simp only[Option.map_eq_some_iff,Prod.mk.injEq] at h
   obtain ⟨⟨_,_⟩,hg,_,rfl⟩:=h
   exact wD hn hg
theorem QQ {k:Nat} {cs:List T}:∀ {ks:List Nat} {σ:Nat→Option a6} {rows:List (List T)},wR σ ks=some rows→∃ rows',wR (bX σ k (some (.rows false [cs.map .p]))) ks=some rows'
 | [],σ,rows,_=>⟨[],rfl⟩
 | k'::ks,σ,rows,h=>by
  unfold wR at h
  split at h
  ·rename_i ds hσ
   split at h
   ·rename_i row rs hds hrs
    obtain ⟨rows',hr'⟩:=QQ (k:=k) (cs:=cs) hrs
    by_cases e:k'=k
    ·subst e
     exact ⟨cs.map (T.canon 4)::rows',by simp only[wR,dQ,J5,hr']⟩
    ·exact ⟨row.map (T.canon 4)::rows',by simp only[wR,bE _ _ e,hσ,hds,hr']⟩
   ·cases h
  ·cases h
theorem AI5:∀ {kk:List Nat} {σ:Nat→Option a6} {n:Nat} {ts:List T} {rows:List (List T)},wR σ kk=some rows→pV σ n (AZR σ kk ts) n
 | [],σ,n,ts,rows,_=>.same (Nat.le_refl _)
 | k::ks,σ,n,ts,rows,h=>by
  unfold AZR
  split
  ·rename_i k' ks' cs ts' e
   cases e
   unfold wR at h
   split at h
   ·rename_i ds hσ
    split at h
    ·rename_i row rs hds hrs
     have hrs':∃ rows',wR (bX σ k (some (.rows false [cs.map .p]))) ks=some rows':=QQ hrs
     obtain ⟨rows',hrs'⟩:=hrs'
     exact (pV.set (n':=n) _ (Nat.le_refl _) hσ rfl).trans (AI5 hrs')
    ·cases h
   ·cases h
  ·exact .same (Nat.le_refl _)
theorem ALW {f:FuncId} {args:List D} {σ σ1:Nat→Option a6} {n:Nat} {ins:List T} {rows:List (List T)} {kk:List Nat} (h:SG f args σ=some (ins,rows,kk,σ1)):pV σ n σ1 n∧wR σ1 kk=some rows:=by
 unfold SG at h
 split at h
 ·rename_i ps σ2 ks hg hp
  split at h
  ·split at h
   ·rename_i rows' vals hr hs
    simp only[Option.some.injEq,Prod.mk.injEq] at h
    obtain ⟨_,rfl,rfl,rfl⟩:=h
    exact ⟨wD (Nat.le_refl _) hg,hr⟩
   ·cases h
  ·cases h
 ·cases h
theorem AYO {args:List D} {σ σ1:Nat→Option a6} {n k:Nat} {cs ts:List T} (h:AI1 args σ=some (k,cs,ts,σ1)):pV σ n σ1 n∧∃ row,σ1 k=some (.rows false [row]):=by
 unfold AI1 at h
 split at h
 ·split at h
  ·rename_i ps σ2 hg
   split at h
   ·rename_i ds ts' hσ hts
    split at h
    ·simp only[Option.some.injEq,Prod.mk.injEq] at h
     obtain ⟨rfl,_,_,rfl⟩:=h
     exact ⟨wD (Nat.le_refl _) hg,_,hσ⟩
    ·cases h
   ·cases h
  ·cases h
 ·cases h
theorem AO7 {k:Nat} {rows:List (List T)} {x:a6} (h:e9 x=false):A0 k rows x=x:=by
 unfold A0
 split
 ·cases h
 ·rfl
theorem AI8 {σ:Nat→Option a6} {n k:Nat} {z:Nat} {rows:List (List T)} (hk:σ k=some (.arr false z rows)):pV σ n (HX σ k rows) n:=⟨Nat.le_refl _,fun j x hj hx hw=>by
 unfold HX
 split
 ·rename_i e
  have e:=Nat.eq_of_beq_eq_true e
  subst e
  rw[hk] at hx;cases hx;cases hw
 ·rw[hx,Option.map_some,AO7 hw]⟩
theorem LS:∀ {ks:List Nat} {σ σ1:Nat→Option a6} {n:Nat} {args args':List D},HA σ ks args=some (args',σ1)→pV σ n σ1 n
 | [],σ,σ1,n,args,args',h=>by cases h;exact .same (Nat.le_refl _)
 | k::ks,σ,σ1,n,args,args',h=>by
  unfold HA at h
  split at h
  ·rename_i hk
   exact (AI8 hk).trans (LS h)
  ·exact LS h
  ·cases h
theorem ATR (hh:e8 E) {σ:Nat→Option a6} {n:Nat} {c:D} {args:List D} {d:D} {σ':Nat→Option a6} {n':Nat} (h:j3 E σ n c args=some (d,σ',n')):pV σ n σ' n':=by
 unfold j3 at h
 split at h
 ·split at h
  ·split at h
   ·split at h
    ·split at h
     ·cases h;exact .same (by omega)
     ·cases h;exact .new _ (by omega)
    ·cases h
   ·split at h
    ·split at h
     ·split at h
      ·cases h;exact .new _ (by omega)
      ·cases h
     ·cases h
    ·cases h
  ·split at h
   ·split at h
    ·cases h;exact .same (by omega)
    ·split at h
     ·cases h;exact .new _ (by omega)
     ·cases h
    ·cases h
   ·cases h
  ·rename_i hg;exact absurd hg (hh _ _)
  ·unfold XJ at h
   split at h
   ·split at h
    ·rename_i hσ
     split at h
     ·simp only[Option.map_eq_some_iff,Prod.mk.injEq] at h
      obtain ⟨_,_,_,rfl,rfl⟩:=h
      exact .set _ (by omega) hσ rfl
     ·cases h
    ·cases h
   ·cases h
  ·unfold lS at h
   split at h
   ·split at h
    ·rename_i hσ
     split at h
     ·simp only[Option.map_eq_some_iff,Prod.mk.injEq] at h
      obtain ⟨_,_,_,rfl,rfl⟩:=h
      exact (pV.set (n':=n) none (Nat.le_refl _) hσ rfl).trans (.new _ (by omega))
     ·cases h
    ·cases h
   ·cases h
  ·unfold AB at h
   split at h
   ·split at h
    ·split at h
     ·simp only[Option.some.injEq,Prod.mk.injEq] at h
      obtain ⟨_,rfl,rfl⟩:=h
      exact .new _ (by omega)
     ·cases h
    ·cases h
   ·split at h
    ·split at h
     ·simp only[Option.some.injEq,Prod.mk.injEq] at h
      obtain ⟨_,rfl,rfl⟩:=h
      exact .new _ (by omega)
     ·cases h
    ·cases h
   ·cases h
  ·unfold XL at h
   split at h
   ·split at h
    ·simp only[Option.some.injEq,Prod.mk.injEq] at h
     obtain ⟨_,rfl,rfl⟩:=h
     exact .new _ (by omega)
    ·cases h
   ·cases h
  ·unfold XI at h
   split at h
   ·split at h
    ·rename_i hσ
     split at h
     ·split at h
      ·split at h
       ·simp only[Option.some.injEq,Prod.mk.injEq] at h
        obtain ⟨_,rfl,rfl⟩:=h
        exact .set _ (by omega) hσ rfl
       ·cases h
      ·cases h
     ·cases h
    ·cases h
   ·cases h
  ·rename_i vs g _
   unfold XH at h
   split at h
   ·rename_i ins rows kk σ1 hin
    split at h
    ·split at h
     ·simp only[Option.some.injEq,Prod.mk.injEq] at h
      obtain ⟨_,rfl,rfl⟩:=h
      obtain ⟨hg,hr⟩:=ALW (n:=n) hin
      exact (hg.trans (AI5 hr)).trans (.same (by omega))
     ·cases h
    ·cases h
   ·cases h
  ·rename_i g _
   unfold XK at h
   split at h
   ·rename_i k cs ts σ1 hin
    split at h
    ·split at h
     ·simp only[Option.some.injEq,Prod.mk.injEq] at h
      obtain ⟨_,rfl,rfl⟩:=h
      obtain ⟨hg,row,hr⟩:=AYO (n:=n) hin
      exact hg.trans (.set _ (by omega) hr rfl)
     ·cases h
    ·cases h
   ·cases h
  ·rename_i g _
   unfold BQ at h
   split at h
   ·rename_i ps σ1 hin
    split at h
    ·simp only[Option.map_eq_some_iff,Prod.mk.injEq] at h
     obtain ⟨_,_,_,rfl,rfl⟩:=h
     exact (LS (n:=n) hin).trans (.same (by omega))
    ·cases h
   ·cases h
  ·split at h
   ·split at h
    ·split at h
     ·simp only[Option.some.injEq,Prod.mk.injEq] at h
      obtain ⟨_,rfl,rfl⟩:=h
      exact .new _ (by omega)
     ·cases h
    ·cases h
   ·cases h
  ·cases h
 ·cases h
theorem BDV (hh:e8 E) {σ:Nat→Option a6} {s:Nat→D} {n:Nat} {op:Op} {d:D} {σ':Nat→Option a6} {n':Nat} (h:nv P E σ s n op=some (d,σ',n')):pV σ n σ' n':=by
 unfold nv at h
 split at h
 ·obtain ⟨h1,rfl⟩:=eM h
  cases hz:tz? P _ with
  | none=>rw[hz] at h1;cases h1
  | some z =>
   rw[hz] at h1
   simp only[Option.bind_some,Option.map_eq_some_iff,Prod.mk.injEq] at h1
   obtain ⟨b,_,rfl,rfl⟩:=h1
   exact .new _ (by omega)
 ·obtain ⟨h1,rfl⟩:=eM h
  simp only[Option.map_eq_some_iff,Prod.mk.injEq] at h1
  obtain ⟨b,_,rfl,rfl⟩:=h1
  exact .new _ (by omega)
 ·obtain ⟨h1,rfl⟩:=eM h
  simp only[Option.map_eq_some_iff,Prod.mk.injEq] at h1
  obtain ⟨σ₂,h2,rfl,rfl⟩:=h1
  unfold j1 at h2
  split at h2
  ·split at h2
   ·rename_i hσ hz
    split at h2
    ·split at h2
     ·cases h2;exact .set _ (by omega) hσ rfl
     ·cases h2
    ·cases h2
   ·rename_i hσ hz
    split at h2
    ·split at h2
     ·cases h2;exact .set _ (by omega) hσ rfl
     ·cases h2
    ·cases h2
   ·cases h2
  ·cases h2
 ·split at h
  ·rename_i r hr
   obtain ⟨h1,rfl⟩:=eM h
   cases h1
   unfold AIK at hr
   split at hr
   ·split at hr
    ·cases hr;exact .new _ (by omega)
    ·cases hr
   ·cases hr;exact .new _ (by omega)
   ·cases hr;exact .new _ (by omega)
   ·cases hr
  ·obtain ⟨h1,rfl⟩:=eM h
   unfold AFZ at h1
   split at h1
   ·cases h1;exact .new _ (by omega)
   ·cases h1
 ·split at h
  ·obtain ⟨h1,rfl⟩:=eM h
   cases h1;exact .new _ (by omega)
  ·split at h
   ·obtain ⟨h1,rfl⟩:=eM h
    cases h1;exact .new _ (by omega)
   ·cases h
 ·obtain ⟨h1,rfl⟩:=eM h
  unfold P6 at h1
  split at h1
  ·split at h1
   ·split at h1
    ·cases h1;exact .new _ (by omega)
    ·cases h1
   ·cases h1
  ·cases h1
 ·split at h
  ·rename_i hgv
   split at h
   ·obtain ⟨h1,rfl⟩:=eM h
    cases h1;exact (wD (Nat.le_refl _) hgv).trans (.new _ (by omega))
   ·cases h
  ·cases h
 ·obtain ⟨h1,rfl⟩:=eM h
  simp only[Option.map_eq_some_iff,Prod.mk.injEq] at h1
  obtain ⟨σ₂,h2,rfl,rfl⟩:=h1
  unfold ZV at h2
  split at h2
  ·split at h2
   ·split at h2
    ·rename_i hσ
     split at h2
     ·cases h2;exact .set _ (by omega) hσ rfl
     ·cases h2
    ·cases h2
   ·cases h2
  ·cases h2
 ·obtain ⟨h1,rfl⟩:=eM h
  simp only[Option.map_eq_some_iff,Prod.mk.injEq] at h1
  obtain ⟨σ₂,h2,rfl,rfl⟩:=h1
  unfold ZV at h2
  split at h2
  ·split at h2
   ·split at h2
    ·rename_i hσ
     split at h2
     ·cases h2;exact .set _ (by omega) hσ rfl
     ·cases h2
    ·cases h2
   ·cases h2
  ·cases h2
 ·obtain ⟨h1,rfl⟩:=eM h
  unfold AIF at h1
  split at h1
  ·split at h1
   ·split at h1
    ·rename_i hσ
     split at h1
     ·cases h1;exact .set _ (by omega) hσ rfl
     ·cases h1;exact .set _ (by omega) hσ rfl
     ·cases h1
    ·cases h1
   ·cases h1
  ·cases h1
 ·obtain ⟨h1,rfl⟩:=eM h
  simp only[Option.map_eq_some_iff,Prod.mk.injEq] at h1
  obtain ⟨σ₂,h2,rfl,rfl⟩:=h1
  unfold AIL at h2
  split at h2
  ·split at h2
   ·rename_i hσ
    split at h2
    ·cases h2;exact .set _ (by omega) hσ rfl
    ·cases h2
   ·cases h2
  ·cases h2
 ·obtain ⟨h1,rfl⟩:=eM h
  simp only[Option.map_eq_some_iff,Prod.mk.injEq] at h1
  obtain ⟨_,_,_,rfl⟩:=h1
  exact .same (by omega)
 ·obtain ⟨h1,rfl⟩:=eM h
  unfold QB at h1
  split at h1
  ·split at h1
   ·rename_i hσ
    split at h1
    ·cases h1;exact .set _ (by omega) hσ rfl
    ·cases h1;exact .same (by omega)
   ·cases h1
  ·cases h1
 ·split at h
  ·obtain ⟨h1,rfl⟩:=eM h
   unfold iB at h1
   split at h1
   ·split at h1
    ·split at h1
     ·split at h1
      ·split at h1
       ·split at h1
        ·split at h1
         ·cases h1;exact .new _ (by omega)
         ·cases h1
        ·split at h1
         ·cases h1;exact .same (by omega)
         ·split at h1
          ·cases h1;exact .new _ (by omega)
          ·cases h1
        ·cases h1
       ·split at h1
        ·rename_i hσ
         split at h1
         ·cases h1
          exact (pV.set (n':=n) none (Nat.le_refl _) hσ rfl).trans (.new _ (by omega))
         ·cases h1
        ·cases h1
       ·cases h1
      ·cases h1
     ·cases h1
    ·cases h1
   ·unfold sQ at h1
    split at h1
    ·split at h1
     ·split at h1
      ·split at h1
       ·split at h1
        ·rename_i hσ
         split at h1
         ·cases h1
          exact (pV.set (n':=n) none (Nat.le_refl _) hσ rfl).trans (.new _ (by omega))
         ·cases h1
        ·cases h1
       ·split at h1
        ·split at h1
         ·cases h1;exact .same (by omega)
         ·split at h1
          ·cases h1;exact .same (by omega)
          ·cases h1
        ·cases h1
       ·cases h1
      ·cases h1
     ·cases h1
    ·cases h1
  ·unfold WM at h
   split at h
   ·rename_i r hcf
    cases h
    exact ATR hh hcf
   ·simp only[Option.map_eq_some_iff,Prod.mk.injEq] at h
    obtain ⟨_,_,_,rfl,rfl⟩:=h
    exact .same (Nat.le_refl _)
  ·obtain ⟨h1,rfl⟩:=eM h
   unfold O0 at h1
   split at h1
   case h_2=>cases h1
   split at h1
   case h_2=>cases h1
   split at h1
   case h_2=>cases h1
   rename_i hσ
   split at h1
   ·cases h1;exact .set _ (by omega) hσ rfl
   ·cases h1
  ·cases h
 ·cases h
end
section
variable (C : Combs) (P : Program) (E : Env) (nt : Nat)
def splitK (ops:Array Oper) (o:Oper) (st:St) (K:St→Prop):Prop:=match o.guard with
 | none=>K st
 | some (j,_)=>match (ops[j]?).bind (·.dst) with
  | none=>K st
  | some t=>match st.s t with
   | .p (.v (.bool b))=>aD b (K ⟨bX st.s t (.p (.v (.bool true))),st.σ,st.n⟩) (K ⟨bX st.s t (.p (.v (.bool false))),st.σ,st.n⟩)
   | _=>K st
def FT (st:St) (dst:Option Tmp) (d:D) (σ':Nat→Option a6) (n':Nat) (K:St→Prop):Prop:=match pZ nt st dst d σ' n' with
 | some st'=>K st'
 | none=>C.bad 201
def zF (ops:Array Oper) (o:Oper) (st:St) (K:St→Prop):Prop :=
 match eY ops st.s o with
 | some true=>match dG E o.op with
  | true=>qvS C P E st.n st.σ st.s (bY true st.s) o.op fun d=>FT C nt st o.dst d st.σ st.n K
  | false=>nvS C P E st.σ (bY true st.s) st.n o.op fun d σ' n'=>FT C nt st o.dst d σ' n' K
 | some false=>FT C nt st o.dst (.p (.v undef)) st.σ st.n K
 | none=>C.bad 202
end
def BEM (A:Nat→Bool) (st st':St):Prop:=∀ i,A i=false→st'.s i=st.s i
structure Fr (A:Nat→Bool) (st st':St):Prop where
 s:BEM A st st'
 b:pV st.σ st.n st'.σ st'.n
theorem Fr.refl (A:Nat→Bool) (st:St):Fr A st st:=⟨fun _ _=>rfl,pV.refl _ _⟩
theorem Fr.trans {A:Nat→Bool} {st st' st'':St} (h:Fr A st st') (h':Fr A st' st''):Fr A st st'':=⟨fun i hi=>(h'.s i hi).trans (h.s i hi),h.b.trans h'.b⟩
theorem Fr.mono {A B:Nat→Bool} {st st':St} (h:Fr A st st') (hab:∀ i,B i=false→A i=false):Fr B st st':=⟨fun i hi=>h.s i (hab i hi),h.b⟩
section
variable {P : Program} {E : Env} {nt : Nat} {ops : Array Oper}
theorem qY {o:Oper} {st:St} {K:St→Prop} (h:splitK ops o st K):K st:=by
 unfold splitK at h
 split at h
 ·exact h
 ·split at h
  ·exact h
  ·rename_i t ht
   split at h
   ·rename_i b hb
    have key:∀ c,b=c→(⟨bX st.s t (.p (.v (.bool c))),st.σ,st.n⟩:St)=st:=by
     intro c hc
     subst hc
     have:bX st.s t (.p (.v (.bool b)))=st.s:=by
      funext i
      by_cases e:i=t
      ·subst e;rw[dQ,hb]
      ·rw[bE _ _ e]
     rw[this]
    cases b with
    | true=>rw[←key true rfl];exact h
    | false=>rw[←key false rfl];exact h
   ·exact h
theorem gT {st:St} {dst:Option Tmp} {d:D} {σ':Nat→Option a6} {n':Nat} {K:St→Prop} (h:FT mB nt st dst d σ' n' K):∃ st',pZ nt st dst d σ' n'=some st'∧K st':=by
 unfold FT at h
 split at h
 ·exact ⟨_,‹_›,h⟩
 ·exact h.elim
theorem iG {o:Oper} {st:St} {K:St→Prop} (h:zF mB P E nt ops o st K):∃ st',eG P E nt ops o st=some st'∧K st':=by
 unfold zF at h
 unfold eG
 split at h
 ·rename_i hg
  split at h
  ·rename_i hq
   obtain ⟨d,h1,h2⟩:=AYJ h
   obtain ⟨st',h3,h4⟩:=gT h2
   exact ⟨st',by simp only[hq,if_true,fR,hg,h1,h3],h4⟩
  ·rename_i hq
   obtain ⟨d,σ',n',h1,h2⟩:=AXS h
   obtain ⟨st',h3,h4⟩:=gT h2
   exact ⟨st',by simp only[hq,Bool.false_eq_true,if_false,hg,h1,h3],h4⟩
 ·rename_i hg
  obtain ⟨st',h3,h4⟩:=gT h
  refine ⟨st',?_,h4⟩
  by_cases hq:dG E o.op=true
  ·simp only[hq,if_true,fR,hg,h3]
  ·simp only[hq,Bool.false_eq_true,if_false,hg,h3]
 ·exact h.elim
theorem mV {st st':St} {dst:Option Tmp} {d:D} {σ':Nat→Option a6} {n':Nat} {A:Nat→Bool} (h:pZ nt st dst d σ' n'=some st') (hA:∀ t,dst=some t→A t=true) (hf:pV st.σ st.n σ' n'):Fr A st st':=by
 obtain ⟨_,rfl⟩:=qS h
 refine ⟨fun i hi=>?_,hf⟩
 unfold p0
 cases dst with
 | none=>rfl
 | some t=>exact bE _ _ fun e=>by subst e;rw[hA _ rfl] at hi;cases hi
theorem kD (hh:e8 E) {o:Oper} {st st':St} {A:Nat→Bool} (h:eG P E nt ops o st=some st') (hA:∀ t,o.dst=some t→A t=true):Fr A st st':=by
 unfold eG at h
 split at h
 ·split at h
  ·exact mV h hA (pV.refl _ _)
  ·cases h
 ·split at h
  ·split at h
   ·rename_i d σ' n' hn
    exact mV h hA (BDV hh hn)
   ·cases h
  ·exact mV h hA (pV.refl _ _)
  ·cases h
end
end Go.Pv
