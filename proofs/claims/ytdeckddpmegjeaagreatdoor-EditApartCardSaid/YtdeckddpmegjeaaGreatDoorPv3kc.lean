/-
  The symbolic executor, part c: operations that write or make memory; a whole region.
-/
import Derived.Test.YtdeckddpmegjeaaGreatDoorPv3kb
set_option linter.defProp false
set_option linter.unusedSimpArgs false
namespace Go.Pv
open Go Go.RowKit
abbrev KN:=D→(Nat→Option bC)→Nat→Prop
section
variable (C : Combs) (P : Program) (E : Env)
def A4N (c:Nat) (x:Option (D×(Nat→Option bC)×Nat)) (K:KN):Prop:=match x with
 | some (d,σ',n')=>K d σ' n'
 | none=>C.bad c
def AG6 (σ:Nat→Option bC) (n:Nat) (t:TypeId) (a v:D) (K:KN):Prop :=
 match a with
 | .ptr k i j=>match σ k with
  | some (.arr ro za rows)=>match ro,tsz? P t,mK v.cells with
   | false,some z,some ts=>match decide (0<z)&&ts.length == z&&ts.all T.leaf with
    | true=>C.row rows i fun r=>C.zA (decide (j+z≤r.length)) (K (.p (.v undef)) (b6 σ k (some (.arr false za (rows.set i (bU r j ts))))) (n+1))
    | false=>C.bad 101
   | _,_,_=>C.bad 102
  | _=>A4N C 103 (one n ((kM P σ t a v).map fun σ'=>(.p (.v undef),σ'))) K
 | _=>C.bad 104
def SX (a b:List (List T)):List (List T):=a++b
def KG (σ:Nat→Option bC) (n:Nat) (u e:TypeId) (s x:D) (K:KN):Prop :=
 match P.underlying u,x with
 | some .string,.p (.v (.string b))=>match tsz? P e,tby? P e,tz? P e,s with
  | some z,some by_,some zv,.own k₀=>match decide (z=1)&&zv.cells.size == 1&&zv.cells.all Value.oneCell',σ k₀ with
   | true,some (.arr false z' rs)=>C.zA (decide (z'=1)&&decide ((rs.length+b.size)*by_≤140737488355328)&&decide (rs.length+b.size≤140737488355328)) (K (.own n) (b6 (b6 σ k₀ none) n (some (.arr false 1 (rs++cW b)))) (n+1))
   | _,_=>C.bad 118
  | _,_,_,_=>C.bad 119
 | _,_=>C.bad 117
def SP (σ:Nat→Option bC) (n:Nat) (t u:TypeId) (s x:D) (K:KN):Prop :=
 match decide (t=u),mP P t with
 | true,some e =>
  match tsz? P e,tby? P e,tz? P e,UI σ x with
  | some z,some by_,some zv,some xs =>
   match decide (0<z)&&zv.cells.size == z&&zv.cells.all Value.oneCell' with
   | true=>match s with
    | .p st=>match eV st with
     | some (full,[])=>C.zA (eE z xs&&full&&decide (xs.length*by_≤140737488355328)&&decide (xs.length≤140737488355328)) (K (.own n) (b6 σ n (some (.arr false z xs))) (n+1))
     | some (full,r::rows)=>aC xs.isEmpty (K (.p st) σ (n+1)) (C.zA (full&&eE z (r::rows)&&eE z xs&&decide (((r::rows).length+xs.length)*by_≤140737488355328)&&decide ((r::rows).length+xs.length≤140737488355328)) (K (.own n) (b6 σ n (some (.arr false z (SX (r::rows) xs)))) (n+1)))
     | none=>C.bad 111
    | .own k₀=>match σ k₀ with
     | some (.arr ro z' rs)=>match ro with
      | false=>C.zA (decide (z'=z)&&eE z xs&&decide ((rs.length+xs.length)*by_≤140737488355328)&&decide (rs.length+xs.length≤140737488355328)) (K (.own n) (b6 (b6 σ k₀ none) n (some (.arr false z (rs++xs)))) (n+1))
      | true=>C.bad 112
     | _=>C.bad 113
    | _=>C.bad 114
   | false=>C.bad 115
  | _,_,_,_=>C.bad 116
 | false,some e=>KG C P σ n u e s x K
 | _,_=>C.bad 117
def AW3 (σ:Nat→Option bC) (n:Nat) (t:TypeId) (len cap:D) (K:KN):Prop :=
 match mP P t with
 | some e =>
  match tsz? P e,tby? P e,tz? P e,len,cap with
  | some z,some by_,some zv,.p (.v (.int _ a)),.p (.v (.int _ b)) =>
   match decide (0<z)&&zv.cells.size == z&&zv.cells.all Value.oneCell' with
   | true=>C.zA ((decide (a=b)||decide (a=0))&&decide (0≤b)&&decide (b*by_≤140737488355328)&&decide (b≤140737488355328)) (K (.own n) (b6 σ n (some (.arr false z (List.replicate a.toNat (zv.cells.toList.map .v))))) (n+1))
   | false=>C.bad 121
  | _,_,_,_,_=>C.bad 122
 | none=>C.bad 123
def A3W (σ:Nat→Option bC) (n:Nat) (t:TypeId) (x i v:D) (K:KN):Prop :=
 match P.underlying t with
 | some (.map kt _) =>
  match uC P kt,i,x with
  | some kd,.p (.v k),.map m =>
   match A5 kd k,σ m with
   | true,some (.map ro es)=>match ro with
    | false=>C.opt _ (findD kd k es 0) fun r=>K (.p (.v undef)) (b6 σ m (some (.map false (e8 es r k v)))) (n+1)
    | true=>C.bad 131
   | _,_=>C.bad 132
  | _,_,_=>C.bad 133
 | _=>C.bad 134
def AXF (σ:Nat→Option bC) (n:Nat) (isString:Bool) (d:D) (K:KN):Prop :=
 match isString,d with
 | true,.it k=>match σ k with
  | some (.kC s pos)=>aC (decide (pos<s.size)) (K (.p (.v (.tuple #[.bool true,.int .i64 pos,.int .i32 (Utf8.decode s pos).1]))) (b6 σ k (some (.kC s (pos+(Utf8.decode s pos).2)))) (n+1)) (K (.p (.v (.tuple #[.bool false]))) σ (n+1))
  | _=>C.bad 141
 | _,_=>C.bad 142
def AUC (fid:FuncId):Option Sy:=match P.funcs[fid]? with
 | some fn=>match fn.resultTypes.toList with
  | [t]=>match mP P t with
   | some e=>AA5 P e
   | none=>none
  | _=>none
 | none=>none
def A56 (z:Nat) (g:List (List T)→Option (List (List T))) (σ:Nat→Option bC) (n:Nat) (args:List D) (K:KN):Prop :=
 match args with
 | [.own k]=>match σ k with
  | some (.arr ro z' rows)=>match ro,decide (z'=z) with
   | false,true=>C.opt (List (List T)) (g rows) fun rows'=>K (.p (.v (.tuple #[]))) (b6 σ k (some (.arr false z rows'))) (n+1)
   | _,_=>C.bad 155
  | _=>C.bad 156
 | _=>C.bad 157
def A5X (z:Nat) (g:List (List T)→List T→Option (List (List T))) (o:Option Sy) (σ:Nat→Option bC) (n:Nat) (args:List D) (K:KN):Prop :=
 match o,args with
 | some r,.own k::rest=>match σ k,mK rest with
  | some (.arr ro z' rows),some ts=>match ro,decide (z'=z)&&decide (r.w=z) with
   | false,true=>C.fresh r (g rows ts) fun l=>K (.own n) (b6 (b6 σ k none) n (some (.arr false r.w (l.map r.enc)))) (n+1)
   | _,_=>C.bad 165
  | _,_=>C.bad 166
 | _,_=>C.bad 167
def BCZ (z y:Nat) (σ:Nat→Option bC) (n:Nat) (args:List D) (K:KN):Prop :=
 match args with
 | [.own k]=>match σ k with
  | some (.arr _ z' rows)=>match decide (z'=z) with
   | true=>C.zA (decide (rows.length*y≤140737488355328)&&decide (rows.length≤140737488355328)) (K (.own n) (b6 σ n (some (.arr false z rows))) (n+1))
   | false=>C.bad 168
  | _=>C.bad 169
 | [.p t]=>match eV t with
  | some (_,rows)=>C.zA ((rows.all fun r=>decide (r.length=z))&&decide (rows.length*y≤140737488355328)&&decide (rows.length≤140737488355328)) (K (.own n) (b6 σ n (some (.arr false z rows))) (n+1))
  | none=>C.bad 170
 | _=>C.bad 171
def AZL (z y:Nat) (σ:Nat→Option bC) (n:Nat) (args:List D) (K:KN):Prop :=
 match args with
 | [.p (.v (.slice none 0 0)),.p (.v (.int .i64 m))]=>C.zA (decide (0≤m)&&decide (m.toNat*y≤140737488355328)&&decide (m.toNat≤140737488355328)) (K (.own n) (b6 σ n (some (.arr false z []))) (n+1))
 | _=>C.bad 172
def AWX:Sy→Nat→Option Nat
 | .pr a b,c=>match Nat.blt c a.w with
  | true=>AWX a c
  | false=>AWX b (c-a.w)
 | .li r,0=>some r.w
 | _,_=>none
def A55 (c:Nat) (g:List T→Option T) (fid:FuncId) (σ:Nat→Option bC) (n:Nat) (args:List D) (K:KN):Prop :=
 match AYS P fid,mK args with
 | some [(true,sy)],some ts=>match AWX sy c with
  | some z=>C.call [(true,sy)] (g ts) fun y=>match (sy.enc y)[c]? with
   | some (.sl _ rows)=>C.zA (!rows.isEmpty&&eE z rows) (K (.agg (((sy.enc y).map D.p).set c (.own n))) (b6 σ n (some (.arr false z rows))) (n+1))
   | _=>C.bad 175
  | none=>C.bad 176
 | _,_=>C.bad 177
def BDW (fid:FuncId):Option Sy:=match P.funcs[fid]? with
 | some fn=>match fn.params.toList with
  | t::_=>match P.underlying t with
   | some (.pointer e)=>AA5 P e
   | _=>none
  | []=>none
 | none=>none
theorem AOY (s:Bool×Sy) (ss:Sh) (y:Sh.den (s::ss)):BDY (Sh.lI (s::ss) y)=Sh.enc (s::ss) y:=by
 cases ss with
 | nil=>rfl
 | cons a l=>cases l<;>rfl
def A51 (g:List T→Option T) (fid:FuncId) (σ:Nat→Option bC) (n:Nat) (args:List D) (K:KN):Prop :=
 match args with
 | .ptr k i j::rest=>match decide (i=0)&&decide (j=0),σ k with
  | true,some (.rows ro [ds])=>match ro,mK ds,mK rest with
   | false,some cs,some ts=>match BDW P fid,AYS P fid with
    | some sy,some (s::ss)=>match decide (sy.w=cs.length) with
     | true=>C.call ((true,sy)::s::ss) (g (.agg cs::ts)) fun y=>K (.p (Sh.enc (s::ss) y.2)) (b6 σ k (some (.rows false [(sy.enc y.1).map .p]))) (n+1)
     | false=>C.bad 181
    | _,_=>C.bad 182
   | _,_,_=>C.bad 183
  | _,_=>C.bad 184
 | _=>C.bad 185
def AEG (σ:Nat→Option bC) (n:Nat) (f:D) (args:List D) (K:KN):Prop :=
 match jF f with
 | some (fid,a,b)=>match E fid with
  | some (.perm z g)=>A56 C z g σ n (a++args++b) K
  | some (.grow z g)=>A5X C z g (AUC P fid) σ n (a++args++b) K
  | some (.dup z y)=>BCZ C z y σ n (a++args++b) K
  | some (.room z y)=>AZL C z y σ n (a++args++b) K
  | some (.A3S g)=>A51 C P g fid σ n (a++args++b) K
  | some (.part c g)=>A55 C P c g fid σ n (a++args++b) K
  | _=>match E fid,AUC P fid,mK (a++args++b) with
   | some (.fresh g),some r,some ts=>C.fresh r (g ts) fun l=>aC l.isEmpty (K (.p (.sl false [])) σ (n+1)) (K (.own n) (b6 σ n (some (.arr false r.w (l.map r.enc)))) (n+1))
   | _,_,_=>C.bad 151
 | none=>C.bad 152
def nvS (σ:Nat→Option bC) (s:Nat→D) (n:Nat) (op:Op) (K:KN):Prop :=
 match op with
 | .store t a v=>AG6 C P σ n t (ev s a) (ev s v) K
 | .makeSlice t l c=>AW3 C P σ n t (ev s l) (ev s c) K
 | .mapUpdate t m i v=>A3W C P σ n t (ev s m) (ev s i) (ev s v) K
 | .insert t m i v=>A3W C P σ n t (ev s m) (ev s i) (ev s v) K
 | .next it isString=>AXF C σ n isString (ev s it) K
 | .call c =>
  match c.callee,c.args.toList,c.argTypes.toList with
  | .builtin .append,[x,y],[t,u]=>SP C P σ n t u (ev s x) (ev s y) K
  | .value f,as,_=>AEG C P E σ n (ev s f) (as.map (ev s)) K
  | _,_,_=>C.bad 161
 | op=>A4N C 162 (nv P E σ s n op) K
end
section
variable {P : Program} {E : Env}
theorem QW {c:Nat} {x:Option (D×(Nat→Option bC)×Nat)} {K:KN} (h:A4N nA c x K):∃ d σ' n',x=some (d,σ',n')∧K d σ' n':=by
 unfold A4N at h
 split at h
 ·exact ⟨_,_,_,rfl,h⟩
 ·exact h.elim
theorem AA4 {σ:Nat→Option bC} {n:Nat} {t:TypeId} {a v:D} {K:KN} (h:AG6 nA P σ n t a v K):∃ d σ' n',one n ((kM P σ t a v).map fun σ'=>(D.p (.v undef),σ'))=some (d,σ',n')∧K d σ' n':=by
 unfold AG6 at h
 split at h
 ·rename_i k i j
  split at h
  ·rename_i ro za rows hσ
   split at h
   ·rename_i z ts hz hts
    split at h
    ·rename_i hc
     simp only[Bool.and_eq_true,decide_eq_true_eq,beq_iff_eq] at hc
     obtain ⟨r,hr,hb,hk⟩:=h
     have hb:j+z≤r.length:=of_decide_eq_true hb
     refine ⟨_,_,_,?_,hk⟩
     simp only[one,kM,hσ,hz,hr,hts]
     rw[if_pos ⟨hc.1.1,hc.1.2,hb,hc.2⟩]
     rfl
    ·exact h.elim
   ·exact h.elim
  ·exact QW h
 ·exact h.elim
theorem OA {σ:Nat→Option bC} {n:Nat} {t u e:TypeId} {s x:D} {K:KN} (he:mP P t=some e) (h:KG nA P σ n u e s x K):∃ d σ' n',one n (tH P σ n t u s x)=some (d,σ',n')∧K d σ' n':=by
 unfold KG at h
 split at h
 ·rename_i b hu
  split at h
  ·rename_i z by_ zv k₀ hz hby hzv
   split at h
   ·rename_i z' rs hc hσ
    simp only[Bool.and_eq_true,decide_eq_true_eq,beq_iff_eq] at hc
    obtain ⟨hb,hk⟩:=h
    simp only[Bool.and_eq_true,decide_eq_true_eq] at hb
    refine ⟨_,_,_,?_,hk⟩
    simp only[one,tH,he,hu,hz,hby,hzv]
    rw[if_pos ⟨hc.1.1,hc.1.2,hc.2⟩]
    simp only[hσ]
    rw[if_pos ⟨hb.1.1,hb.1.2,hb.2⟩]
    rfl
   ·exact h.elim
  ·exact h.elim
 ·exact h.elim
theorem SQ {σ:Nat→Option bC} {n:Nat} {t u:TypeId} {s x:D} {K:KN} (h:SP nA P σ n t u s x K):∃ d σ' n',one n (iM P σ n t u s x)=some (d,σ',n')∧K d σ' n':=by
 unfold SP at h
 split at h
 ·rename_i e htu he
  have htu:t=u:=of_decide_eq_true htu
  split at h
  ·rename_i z by_ zv xs hz hby hzv hxs
   split at h
   ·rename_i hc
    simp only[Bool.and_eq_true,decide_eq_true_eq,beq_iff_eq] at hc
    split at h
    ·rename_i st
     split at h
     ·rename_i full hrow
      obtain ⟨hb,hk⟩:=h
      simp only[Bool.and_eq_true,decide_eq_true_eq] at hb
      refine ⟨_,_,_,?_,hk⟩
      simp only[one,iM,if_pos htu,he,hz,hby,hzv,hxs]
      rw[if_pos ⟨hc.1.1,hc.1.2,hc.2,hb.1.1.1⟩]
      simp only[hrow]
      rw[if_pos ⟨hb.1.1.2,hb.1.2,hb.2⟩]
      rfl
     ·rename_i full r rows hrow
      rw[sO] at h
      cases xs with
      | nil =>
       refine ⟨_,_,_,?_,h.1 rfl⟩
       simp only[one,iM,if_pos htu,he,hz,hby,hzv,hxs]
       rw[if_pos ⟨hc.1.1,hc.1.2,hc.2,rfl⟩]
       simp only[hrow]
       rfl
      | cons x0 xs =>
       obtain ⟨hb,hk⟩:=h.2 rfl
       simp only[Bool.and_eq_true,decide_eq_true_eq] at hb
       refine ⟨_,_,_,?_,hk⟩
       simp only[one,iM,if_pos htu,he,hz,hby,hzv,hxs]
       rw[if_pos ⟨hc.1.1,hc.1.2,hc.2,hb.1.1.2⟩]
       simp only[hrow]
       rw[if_pos ⟨hb.1.1.1.1,hb.1.1.1.2,hb.1.2,hb.2⟩]
       rfl
     ·exact h.elim
    ·rename_i k₀
     split at h
     ·rename_i ro z' rs hσ
      split at h
      ·obtain ⟨hb,hk⟩:=h
       simp only[Bool.and_eq_true,decide_eq_true_eq] at hb
       refine ⟨_,_,_,?_,hk⟩
       simp only[one,iM,if_pos htu,he,hz,hby,hzv,hxs]
       rw[if_pos ⟨hc.1.1,hc.1.2,hc.2,hb.1.1.2⟩]
       simp only[hσ]
       rw[if_pos ⟨hb.1.1.1,hb.1.2,hb.2⟩]
       rfl
      ·exact h.elim
     ·exact h.elim
    ·exact h.elim
   ·exact h.elim
  ·exact h.elim
 ·rename_i e htu he
  obtain ⟨d,σ',n',h1,h2⟩:=OA (t:=t) he h
  refine ⟨d,σ',n',?_,h2⟩
  unfold iM
  rw[if_neg (of_decide_eq_false htu)]
  exact h1
 ·exact h.elim
theorem AFD {σ:Nat→Option bC} {n:Nat} {t:TypeId} {a b:D} {K:KN} (h:AW3 nA P σ n t a b K):∃ d σ' n',one n (QI P σ n t a b)=some (d,σ',n')∧K d σ' n':=by
 unfold AW3 at h
 split at h
 ·rename_i e he
  split at h
  ·rename_i z by_ zv k1 x k2 y hz hby hzv
   split at h
   ·rename_i hc
    simp only[Bool.and_eq_true,decide_eq_true_eq,beq_iff_eq] at hc
    obtain ⟨hb,hk⟩:=h
    simp only[Bool.and_eq_true,Bool.or_eq_true,decide_eq_true_eq] at hb
    refine ⟨_,_,_,?_,hk⟩
    simp only[one,QI,he,hz,hby,hzv]
    rw[if_pos ⟨hb.1.1.1,hb.1.1.2,hb.1.2,hb.2,hc.1.1,hc.1.2,hc.2⟩]
    rfl
   ·exact h.elim
  ·exact h.elim
 ·exact h.elim
theorem QL {σ:Nat→Option bC} {n:Nat} {t:TypeId} {x i v:D} {K:KN} (h:A3W nA P σ n t x i v K):∃ d σ' n',one n ((ZY P σ t x i v).map fun σ'=>(D.p (.v undef),σ'))=some (d,σ',n')∧K d σ' n':=by
 unfold A3W at h
 split at h
 ·rename_i kt et hu
  split at h
  ·rename_i kd k m hk
   split at h
   ·rename_i ro es hkey hσ
    split at h
    ·obtain ⟨r,hr,hk'⟩:=h
     refine ⟨_,_,_,?_,hk'⟩
     simp only[one,ZY,hu,hk,hkey,hσ,hr]
     rfl
    ·exact h.elim
   ·exact h.elim
  ·exact h.elim
 ·exact h.elim
theorem AFG {σ:Nat→Option bC} {n:Nat} {b:Bool} {x:D} {K:KN} (h:AXF nA σ n b x K):∃ d σ' n',one n (QN σ b x)=some (d,σ',n')∧K d σ' n':=by
 unfold AXF at h
 split at h
 ·rename_i k
  split at h
  ·rename_i s pos hσ
   rw[sO] at h
   by_cases hp:pos<s.size
   ·refine ⟨_,_,_,?_,h.1 (by simpa using hp)⟩
    simp only[one,QN,hσ]
    rw[if_pos hp]
    rfl
   ·refine ⟨_,_,_,?_,h.2 (by simpa using hp)⟩
    simp only[one,QN,hσ]
    rw[if_neg hp]
    rfl
  ·exact h.elim
 ·exact h.elim
theorem XX {σ:Nat→Option bC} {n:Nat} {f:D} {args:List D} {K:KN} (h:AEG nA P E σ n f args K):∃ d σ' n',oG E σ n f args=some (d,σ',n')∧K d σ' n':=by
 unfold AEG at h
 split at h
 ·rename_i fid a b hc
  split at h
  ·rename_i z g hE
   unfold A56 at h
   split at h
   ·rename_i k hargs
    split at h
    ·rename_i ro z' rows hσ
     split at h
     ·rename_i hz
      obtain ⟨rows',h1,h2⟩:=h
      refine ⟨_,_,_,?_,h2⟩
      simp only[oG,hc,hE,B9,hargs,hσ,hz,h1,Option.map_some]
     ·exact h.elim
    ·exact h.elim
   ·exact h.elim
  ·rename_i z g hE
   unfold A5X at h
   split at h
   ·rename_i r k rest hr hargs
    split at h
    ·rename_i ro z' rows ts hσ hts
     split at h
     ·rename_i hz
      obtain ⟨l,h1,h2⟩:=h
      rw[Bool.and_eq_true] at hz
      have hw:r.w=z:=of_decide_eq_true hz.2
      rw[hw] at h2
      refine ⟨_,_,_,?_,h2⟩
      simp only[oG,hc,hE,jL,hargs,hσ,hts,hz.1,h1,Option.map_some]
     ·exact h.elim
    ·exact h.elim
   ·exact h.elim
  ·rename_i z g hE
   unfold BCZ at h
   split at h
   ·rename_i k hargs
    split at h
    ·rename_i ro z' rows hσ
     split at h
     ·rename_i hz
      obtain ⟨h1,h2⟩:=h
      refine ⟨_,_,_,?_,h2⟩
      rw[Bool.and_eq_true] at h1
      simp only[oG,hc,hE,AV,hargs,hσ,hz,h1.1,h1.2,Bool.and_true]
     ·exact h.elim
    ·exact h.elim
   ·rename_i t hargs
    split at h
    ·rename_i full rows hr
     obtain ⟨h1,h2⟩:=h
     refine ⟨_,_,_,?_,h2⟩
     simp only[oG,hc,hE,AV,hargs,hr,h1]
    ·exact h.elim
   ·exact h.elim
  ·rename_i z g hE
   unfold AZL at h
   split at h
   ·rename_i m hargs
    obtain ⟨h1,h2⟩:=h
    refine ⟨_,_,_,?_,h2⟩
    simp only[oG,hc,hE,GP,hargs,h1]
   ·exact h.elim
  ·rename_i g hE
   unfold A51 at h
   split at h
   ·rename_i k i j rest hargs
    split at h
    ·rename_i ro ds hij hσ
     split at h
     ·rename_i cs ts hcs hts
      split at h
      ·rename_i sy s ss hsy hs
       split at h
       ·rename_i hw
        obtain ⟨y,h1,h2⟩:=h
        refine ⟨_,_,_,?_,h2⟩
        have h1':g (.agg cs::ts)=some (.cA (.agg (sy.enc y.1)::Sh.lI (s::ss) y.2)):=h1
        have hl:decide ((sy.enc y.1).length=cs.length)=true:=by rw[Sy.cV];exact hw
        simp only[oG,hc,hE,YA,hargs,hij,hσ,hcs,hts,h1',hl,AOY]
       ·exact h.elim
      ·exact h.elim
     ·exact h.elim
    ·exact h.elim
   ·exact h.elim
  ·rename_i c g hE
   unfold A55 at h
   split at h
   ·rename_i sy ts hsh hts
    split at h
    ·rename_i z hz
     obtain ⟨y,hg,h⟩:=h
     split at h
     ·rename_i fl rows hcc
      obtain ⟨h1,h2⟩:=h
      refine ⟨_,_,_,?_,h2⟩
      rw[Bool.and_eq_true] at h1
      have hg':g ts=some (.agg (sy.enc y)):=hg
      cases rows with
      | nil=>cases h1.1
      | cons r rows =>
       have hr:r.length=z:=by
        have:=List.all_eq_true.1 h1.2 r List.mem_cons_self
        simpa using this
       subst hr
       simp only[oG,hc,hE,hts,hg',hcc]
     ·exact h.elim
    ·exact h.elim
   ·exact h.elim
  ·split at h
   ·rename_i g r ts hE hr hts
    obtain ⟨l,h1,h2⟩:=h
    rw[sO] at h2
    cases l with
    | nil =>
     refine ⟨_,_,_,?_,h2.1 rfl⟩
     simp only[oG,hc,hE,hts,h1]
     rfl
    | cons x l =>
     refine ⟨_,_,_,?_,h2.2 rfl⟩
     simp only[oG,hc,hE,hts,h1,List.map_cons,Sy.cV]
   ·exact h.elim
 ·exact h.elim
theorem AXK {σ:Nat→Option bC} {s:Nat→D} {n:Nat} {op:Op} {K:KN} (h:nvS nA P E σ s n op K):∃ d σ' n',nv P E σ s n op=some (d,σ',n')∧K d σ' n':=by
 unfold nvS at h
 split at h
 ·exact AA4 h
 ·exact AFD h
 ·exact QL h
 ·exact QL h
 ·exact AFG h
 ·rename_i c
  split at h
  ·rename_i x y t u hc ha hat
   obtain ⟨d,σ',n',h1,h2⟩:=SQ h
   refine ⟨d,σ',n',?_,h2⟩
   simp only[nv,hc,ha,hat]
   exact h1
  ·rename_i f hc
   obtain ⟨d,σ',n',h1,h2⟩:=XX h
   refine ⟨d,σ',n',?_,h2⟩
   simp only[nv,hc,W5,h1]
  ·exact h.elim
 ·exact QW h
end
def tD (σ:Nat→Option bC) (n:Nat) (σ':Nat→Option bC) (n':Nat):Prop:=n≤n'∧∀ k x,k<n→σ k=some x→gK x=false→σ' k=some x
theorem tD.refl (σ:Nat→Option bC) (n:Nat):tD σ n σ n:=⟨Nat.le_refl _,fun _ _ _ h _=>h⟩
theorem tD.trans {σ σ' σ'':Nat→Option bC} {n n' n'':Nat} (h:tD σ n σ' n') (h':tD σ' n' σ'' n''):tD σ n σ'' n'' :=
 ⟨Nat.le_trans h.1 h'.1,fun k x hk hx hw=>h'.2 k x (Nat.lt_of_lt_of_le hk h.1) (h.2 k x hk hx hw) hw⟩
theorem tD.new {σ:Nat→Option bC} {n n':Nat} (x:Option bC) (h:n≤n'):tD σ n (b6 σ n x) n':=⟨h,fun k y hk hy _=>by rw[bK _ _ (by omega)];exact hy⟩
theorem tD.same {σ:Nat→Option bC} {n n':Nat} (h:n≤n'):tD σ n σ n':=⟨h,fun _ _ _ h _=>h⟩
theorem tD.set {σ:Nat→Option bC} {n n' m:Nat} {x₀:bC} (x:Option bC) (h:n≤n') (hm:σ m=some x₀) (hw:gK x₀=true):tD σ n (b6 σ m x) n':=⟨h,fun k y hk hy hy'=>by
 by_cases e:k=m
 ·subst e;rw[hm] at hy;cases hy;rw[hw] at hy';cases hy'
 ·rw[bK _ _ e];exact hy⟩
def fF (E:Env):Prop:=∀ f g,E f≠some (.heap g)
section
variable {P : Program} {E : Env}
theorem fB {n:Nat} {x:Option (D×(Nat→Option bC))} {d:D} {σ':Nat→Option bC} {n':Nat} (h:one n x=some (d,σ',n')):x=some (d,σ')∧n'=n+1:=by
 unfold one at h
 cases x with
 | none=>cases h
 | some y=>obtain ⟨a,b⟩:=y;simp only[Option.map_some,Option.some.injEq,Prod.mk.injEq] at h;obtain ⟨rfl,rfl,rfl⟩:=h;exact ⟨rfl,rfl⟩
theorem ATR (hh:fF E) {σ:Nat→Option bC} {n:Nat} {c:D} {args:List D} {d:D} {σ':Nat→Option bC} {n':Nat} (h:oG E σ n c args=some (d,σ',n')):tD σ n σ' n':=by
 unfold oG at h
 split at h
 ·split at h
  ·split at h
   ·split at h
    ·split at h
     ·cases h;exact .same (by omega)
     ·cases h;exact .new _ (by omega)
    ·cases h
   ·split at h
    ·split at h
     ·split at h
      ·cases h;exact .new _ (by omega)
      ·cases h
     ·cases h
    ·cases h
  ·split at h
   ·split at h
    ·cases h;exact .same (by omega)
    ·split at h
     ·cases h;exact .new _ (by omega)
     ·cases h
    ·cases h
   ·cases h
  ·rename_i hg;exact absurd hg (hh _ _)
  ·unfold B9 at h
   split at h
   ·split at h
    ·rename_i hσ
     split at h
     ·simp only[Option.map_eq_some_iff,Prod.mk.injEq] at h
      obtain ⟨_,_,_,rfl,rfl⟩:=h
      exact .set _ (by omega) hσ rfl
     ·cases h
    ·cases h
   ·cases h
  ·unfold jL at h
   split at h
   ·split at h
    ·rename_i hσ
     split at h
     ·simp only[Option.map_eq_some_iff,Prod.mk.injEq] at h
      obtain ⟨_,_,_,rfl,rfl⟩:=h
      exact (tD.set (n':=n) none (Nat.le_refl _) hσ rfl).trans (.new _ (by omega))
     ·cases h
    ·cases h
   ·cases h
  ·unfold AV at h
   split at h
   ·split at h
    ·split at h
     ·simp only[Option.some.injEq,Prod.mk.injEq] at h
      obtain ⟨_,rfl,rfl⟩:=h
      exact .new _ (by omega)
     ·cases h
    ·cases h
   ·split at h
    ·split at h
     ·simp only[Option.some.injEq,Prod.mk.injEq] at h
      obtain ⟨_,rfl,rfl⟩:=h
      exact .new _ (by omega)
     ·cases h
    ·cases h
   ·cases h
  ·unfold GP at h
   split at h
   ·split at h
    ·simp only[Option.some.injEq,Prod.mk.injEq] at h
     obtain ⟨_,rfl,rfl⟩:=h
     exact .new _ (by omega)
    ·cases h
   ·cases h
  ·unfold YA at h
   split at h
   ·split at h
    ·rename_i hσ
     split at h
     ·split at h
      ·split at h
       ·simp only[Option.some.injEq,Prod.mk.injEq] at h
        obtain ⟨_,rfl,rfl⟩:=h
        exact .set _ (by omega) hσ rfl
       ·cases h
      ·cases h
     ·cases h
    ·cases h
   ·cases h
  ·split at h
   ·split at h
    ·split at h
     ·simp only[Option.some.injEq,Prod.mk.injEq] at h
      obtain ⟨_,rfl,rfl⟩:=h
      exact .new _ (by omega)
     ·cases h
    ·cases h
   ·cases h
  ·cases h
 ·cases h
theorem LV:∀ {ps ps':List (Nat×D)} {σ σ1:Nat→Option bC} {n n':Nat},n≤n'→zL σ ps=some (ps',σ1)→tD σ n σ1 n'
 | [],ps',σ,σ1,n,n',hn,h=>by
  simp only[zL] at h
  cases h
  exact .same hn
 | p::ps,ps',σ,σ1,n,n',hn,h=>by
  obtain ⟨pi,pd⟩:=p
  unfold zL at h
  split at h
  ·rename_i e;cases e
  ·rename_i i k r e
   cases e
   split at h
   ·rename_i z rows hk
    simp only[Option.map_eq_some_iff,Prod.mk.injEq] at h
    obtain ⟨⟨_,_⟩,hg,_,rfl⟩:=h
    exact (tD.set (n':=n) none (Nat.le_refl _) hk rfl).trans (LV hn hg)
   ·cases h
  ·rename_i i d r _ e
   cases e
   simp only[Option.map_eq_some_iff,Prod.mk.injEq] at h
   obtain ⟨⟨_,_⟩,hg,_,rfl⟩:=h
   exact LV hn hg
theorem BDS (hh:fF E) {σ:Nat→Option bC} {s:Nat→D} {n:Nat} {op:Op} {d:D} {σ':Nat→Option bC} {n':Nat} (h:nv P E σ s n op=some (d,σ',n')):tD σ n σ' n':=by
 unfold nv at h
 split at h
 ·obtain ⟨h1,rfl⟩:=fB h
  cases hz:tz? P _ with
  | none=>rw[hz] at h1;cases h1
  | some z =>
   rw[hz] at h1
   simp only[Option.bind_some,Option.map_eq_some_iff,Prod.mk.injEq] at h1
   obtain ⟨b,_,rfl,rfl⟩:=h1
   exact .new _ (by omega)
 ·obtain ⟨h1,rfl⟩:=fB h
  simp only[Option.map_eq_some_iff,Prod.mk.injEq] at h1
  obtain ⟨b,_,rfl,rfl⟩:=h1
  exact .new _ (by omega)
 ·obtain ⟨h1,rfl⟩:=fB h
  simp only[Option.map_eq_some_iff,Prod.mk.injEq] at h1
  obtain ⟨σ₂,h2,rfl,rfl⟩:=h1
  unfold kM at h2
  split at h2
  ·split at h2
   ·rename_i hσ hz
    split at h2
    ·split at h2
     ·cases h2;exact .set _ (by omega) hσ rfl
     ·cases h2
    ·cases h2
   ·rename_i hσ hz
    split at h2
    ·split at h2
     ·cases h2;exact .set _ (by omega) hσ rfl
     ·cases h2
    ·cases h2
   ·cases h2
  ·cases h2
 ·split at h
  ·rename_i r hr
   obtain ⟨h1,rfl⟩:=fB h
   cases h1
   unfold AIJ at hr
   split at hr
   ·split at hr
    ·cases hr;exact .new _ (by omega)
    ·cases hr
   ·cases hr;exact .new _ (by omega)
   ·cases hr;exact .new _ (by omega)
   ·cases hr
  ·obtain ⟨h1,rfl⟩:=fB h
   unfold AF0 at h1
   split at h1
   ·cases h1;exact .new _ (by omega)
   ·cases h1
 ·split at h
  ·obtain ⟨h1,rfl⟩:=fB h
   cases h1;exact .new _ (by omega)
  ·split at h
   ·obtain ⟨h1,rfl⟩:=fB h
    cases h1;exact .new _ (by omega)
   ·cases h
 ·obtain ⟨h1,rfl⟩:=fB h
  unfold QI at h1
  split at h1
  ·split at h1
   ·split at h1
    ·cases h1;exact .new _ (by omega)
    ·cases h1
   ·cases h1
  ·cases h1
 ·split at h
  ·rename_i hgv
   split at h
   ·obtain ⟨h1,rfl⟩:=fB h
    cases h1;exact (LV (Nat.le_refl _) hgv).trans (.new _ (by omega))
   ·cases h
  ·cases h
 ·obtain ⟨h1,rfl⟩:=fB h
  simp only[Option.map_eq_some_iff,Prod.mk.injEq] at h1
  obtain ⟨σ₂,h2,rfl,rfl⟩:=h1
  unfold ZY at h2
  split at h2
  ·split at h2
   ·split at h2
    ·rename_i hσ
     split at h2
     ·cases h2;exact .set _ (by omega) hσ rfl
     ·cases h2
    ·cases h2
   ·cases h2
  ·cases h2
 ·obtain ⟨h1,rfl⟩:=fB h
  simp only[Option.map_eq_some_iff,Prod.mk.injEq] at h1
  obtain ⟨σ₂,h2,rfl,rfl⟩:=h1
  unfold ZY at h2
  split at h2
  ·split at h2
   ·split at h2
    ·rename_i hσ
     split at h2
     ·cases h2;exact .set _ (by omega) hσ rfl
     ·cases h2
    ·cases h2
   ·cases h2
  ·cases h2
 ·obtain ⟨h1,rfl⟩:=fB h
  unfold AIF at h1
  split at h1
  ·split at h1
   ·split at h1
    ·rename_i hσ
     split at h1
     ·cases h1;exact .set _ (by omega) hσ rfl
     ·cases h1;exact .set _ (by omega) hσ rfl
     ·cases h1
    ·cases h1
   ·cases h1
  ·cases h1
 ·obtain ⟨h1,rfl⟩:=fB h
  simp only[Option.map_eq_some_iff,Prod.mk.injEq] at h1
  obtain ⟨σ₂,h2,rfl,rfl⟩:=h1
  unfold AIK at h2
  split at h2
  ·split at h2
   ·rename_i hσ
    split at h2
    ·cases h2;exact .set _ (by omega) hσ rfl
    ·cases h2
   ·cases h2
  ·cases h2
 ·obtain ⟨h1,rfl⟩:=fB h
  simp only[Option.map_eq_some_iff,Prod.mk.injEq] at h1
  obtain ⟨_,_,_,rfl⟩:=h1
  exact .same (by omega)
 ·obtain ⟨h1,rfl⟩:=fB h
  unfold QN at h1
  split at h1
  ·split at h1
   ·rename_i hσ
    split at h1
    ·cases h1;exact .set _ (by omega) hσ rfl
    ·cases h1;exact .same (by omega)
   ·cases h1
  ·cases h1
 ·split at h
  ·obtain ⟨h1,rfl⟩:=fB h
   unfold iM at h1
   split at h1
   ·split at h1
    ·split at h1
     ·split at h1
      ·split at h1
       ·split at h1
        ·split at h1
         ·cases h1;exact .new _ (by omega)
         ·cases h1
        ·split at h1
         ·cases h1;exact .same (by omega)
         ·split at h1
          ·cases h1;exact .new _ (by omega)
          ·cases h1
        ·cases h1
       ·split at h1
        ·rename_i hσ
         split at h1
         ·cases h1
          exact (tD.set (n':=n) none (Nat.le_refl _) hσ rfl).trans (.new _ (by omega))
         ·cases h1
        ·cases h1
       ·cases h1
      ·cases h1
     ·cases h1
    ·cases h1
   ·unfold tH at h1
    split at h1
    ·split at h1
     ·split at h1
      ·split at h1
       ·split at h1
        ·rename_i hσ
         split at h1
         ·cases h1
          exact (tD.set (n':=n) none (Nat.le_refl _) hσ rfl).trans (.new _ (by omega))
         ·cases h1
        ·cases h1
       ·split at h1
        ·split at h1
         ·cases h1;exact .same (by omega)
         ·split at h1
          ·cases h1;exact .same (by omega)
          ·cases h1
        ·cases h1
       ·cases h1
      ·cases h1
     ·cases h1
    ·cases h1
  ·unfold W5 at h
   split at h
   ·rename_i r hcf
    cases h
    exact ATR hh hcf
   ·simp only[Option.map_eq_some_iff,Prod.mk.injEq] at h
    obtain ⟨_,_,_,rfl,rfl⟩:=h
    exact .same (Nat.le_refl _)
  ·cases h
 ·cases h
end
section
variable (C : Combs) (P : Program) (E : Env) (nt : Nat)
def splitK (ops:Array Oper) (o:Oper) (st:St) (K:St→Prop):Prop:=match o.guard with
 | none=>K st
 | some (j,_)=>match (ops[j]?).bind (·.dst) with
  | none=>K st
  | some t=>match st.s t with
   | .p (.v (.bool b))=>aC b (K ⟨b6 st.s t (.p (.v (.bool true))),st.σ,st.n⟩) (K ⟨b6 st.s t (.p (.v (.bool false))),st.σ,st.n⟩)
   | _=>K st
def E7 (st:St) (dst:Option Tmp) (d:D) (σ':Nat→Option bC) (n':Nat) (K:St→Prop):Prop:=match qD nt st dst d σ' n' with
 | some st'=>K st'
 | none=>C.bad 201
def zS (ops:Array Oper) (o:Oper) (st:St) (K:St→Prop):Prop :=
 match eZ ops st.s o with
 | some true=>match dI E o.op with
  | true=>qvS C P E st.n st.σ st.s (b9 true st.s) o.op fun d=>E7 C nt st o.dst d st.σ st.n K
  | false=>nvS C P E st.σ (b9 true st.s) st.n o.op fun d σ' n'=>E7 C nt st o.dst d σ' n' K
 | some false=>E7 C nt st o.dst (.p (.v undef)) st.σ st.n K
 | none=>C.bad 202
end
def BEI (A:Nat→Bool) (st st':St):Prop:=∀ i,A i=false→st'.s i=st.s i
structure Fr (A:Nat→Bool) (st st':St):Prop where
 s:BEI A st st'
 b:tD st.σ st.n st'.σ st'.n
theorem Fr.refl (A:Nat→Bool) (st:St):Fr A st st:=⟨fun _ _=>rfl,tD.refl _ _⟩
theorem Fr.trans {A:Nat→Bool} {st st' st'':St} (h:Fr A st st') (h':Fr A st' st''):Fr A st st'':=⟨fun i hi=>(h'.s i hi).trans (h.s i hi),h.b.trans h'.b⟩
theorem Fr.mono {A B:Nat→Bool} {st st':St} (h:Fr A st st') (hab:∀ i,B i=false→A i=false):Fr B st st':=⟨fun i hi=>h.s i (hab i hi),h.b⟩
section
variable {P : Program} {E : Env} {nt : Nat} {ops : Array Oper}
theorem rB {o:Oper} {st:St} {K:St→Prop} (h:splitK ops o st K):K st:=by
 unfold splitK at h
 split at h
 ·exact h
 ·split at h
  ·exact h
  ·rename_i t ht
   split at h
   ·rename_i b hb
    have key:∀ c,b=c→(⟨b6 st.s t (.p (.v (.bool c))),st.σ,st.n⟩:St)=st:=by
     intro c hc
     subst hc
     have:b6 st.s t (.p (.v (.bool b)))=st.s:=by
      funext i
      by_cases e:i=t
      ·subst e;rw[dX,hb]
      ·rw[bK _ _ e]
     rw[this]
    cases b with
    | true=>rw[←key true rfl];exact h
    | false=>rw[←key false rfl];exact h
   ·exact h
theorem iD {st:St} {dst:Option Tmp} {d:D} {σ':Nat→Option bC} {n':Nat} {K:St→Prop} (h:E7 nA nt st dst d σ' n' K):∃ st',qD nt st dst d σ' n'=some st'∧K st':=by
 unfold E7 at h
 split at h
 ·exact ⟨_,‹_›,h⟩
 ·exact h.elim
theorem iR {o:Oper} {st:St} {K:St→Prop} (h:zS nA P E nt ops o st K):∃ st',eJ P E nt ops o st=some st'∧K st':=by
 unfold zS at h
 unfold eJ
 split at h
 ·rename_i hg
  split at h
  ·rename_i hq
   obtain ⟨d,h1,h2⟩:=AX9 h
   obtain ⟨st',h3,h4⟩:=iD h2
   exact ⟨st',by simp only[hq,if_true,fY,hg,h1,h3],h4⟩
  ·rename_i hq
   obtain ⟨d,σ',n',h1,h2⟩:=AXK h
   obtain ⟨st',h3,h4⟩:=iD h2
   exact ⟨st',by simp only[hq,Bool.false_eq_true,if_false,hg,h1,h3],h4⟩
 ·rename_i hg
  obtain ⟨st',h3,h4⟩:=iD h
  refine ⟨st',?_,h4⟩
  by_cases hq:dI E o.op=true
  ·simp only[hq,if_true,fY,hg,h3]
  ·simp only[hq,Bool.false_eq_true,if_false,hg,h3]
 ·exact h.elim
theorem nE {st st':St} {dst:Option Tmp} {d:D} {σ':Nat→Option bC} {n':Nat} {A:Nat→Bool} (h:qD nt st dst d σ' n'=some st') (hA:∀ t,dst=some t→A t=true) (hf:tD st.σ st.n σ' n'):Fr A st st':=by
 obtain ⟨_,rfl⟩:=qZ h
 refine ⟨fun i hi=>?_,hf⟩
 unfold qE
 cases dst with
 | none=>rfl
 | some t=>exact bK _ _ fun e=>by subst e;rw[hA _ rfl] at hi;cases hi
theorem kV (hh:fF E) {o:Oper} {st st':St} {A:Nat→Bool} (h:eJ P E nt ops o st=some st') (hA:∀ t,o.dst=some t→A t=true):Fr A st st':=by
 unfold eJ at h
 split at h
 ·split at h
  ·exact nE h hA (tD.refl _ _)
  ·cases h
 ·split at h
  ·split at h
   ·rename_i d σ' n' hn
    exact nE h hA (BDS hh hn)
   ·cases h
  ·exact nE h hA (tD.refl _ _)
  ·cases h
end
end Go.Pv
