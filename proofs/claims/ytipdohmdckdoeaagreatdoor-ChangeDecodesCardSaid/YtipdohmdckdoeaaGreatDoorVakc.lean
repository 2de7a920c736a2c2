/-
  The symbolic executor, part c: operations that write or make memory; a whole region.
-/
import Derived.Test.YtipdohmdckdoeaaGreatDoorVakb
set_option linter.defProp false
set_option linter.unusedSimpArgs false
namespace Go.Pv
open Go Go.RowKit
abbrev KN:=D→(Nat→Option aK)→Nat→Prop
section
variable (C : Combs) (P : Program) (E : Env)
def ACC (c:Nat) (x:Option (D×(Nat→Option aK)×Nat)) (K:KN):Prop:=match x with
 | some (d,σ',n')=>K d σ' n'
 | none=>C.bad c
def OP (σ:Nat→Option aK) (n:Nat) (t:TypeId) (a v:D) (K:KN):Prop :=
 match a with
 | .ptr k i j=>match σ k with
  | some (.arr ro za rows)=>match ro,tsz? P t,iR v.cells with
   | false,some z,some ts=>match decide (0<z)&&ts.length == z&&ts.all T.leaf with
    | true=>C.row rows i fun r=>C.uB (decide (j+z≤r.length)) (K (.p (.v undef)) (a6 σ k (some (.arr false za (rows.set i (bS r j ts))))) (n+1))
    | false=>C.bad 101
   | _,_,_=>C.bad 102
  | _=>ACC C 103 (one n ((fG P σ t a v).map fun σ'=>(.p (.v undef),σ'))) K
 | _=>C.bad 104
def GQ (a b:List (List T)):List (List T):=a++b
def AV (σ:Nat→Option aK) (n:Nat) (u e:TypeId) (s x:D) (K:KN):Prop :=
 match P.underlying u,x with
 | some .string,.p (.v (.string b))=>match tsz? P e,tby? P e,tz? P e,s with
  | some z,some by_,some zv,.own k₀=>match decide (z=1)&&zv.cells.size == 1&&zv.cells.all Value.oneCell',σ k₀ with
   | true,some (.arr false z' rs)=>C.uB (decide (z'=1)&&decide ((rs.length+b.size)*by_≤140737488355328)&&decide (rs.length+b.size≤140737488355328)) (K (.own n) (a6 (a6 σ k₀ none) n (some (.arr false 1 (rs++bU b)))) (n+1))
   | _,_=>C.bad 118
  | _,_,_,_=>C.bad 119
 | _,_=>C.bad 117
def GK (σ:Nat→Option aK) (n:Nat) (t u:TypeId) (s x:D) (K:KN):Prop :=
 match decide (t=u),gR P t with
 | true,some e =>
  match tsz? P e,tby? P e,tz? P e,CV σ x with
  | some z,some by_,some zv,some xs =>
   match decide (0<z)&&zv.cells.size == z&&zv.cells.all Value.oneCell' with
   | true=>match s with
    | .p st=>match dF st with
     | some (full,[])=>C.uB (dG z xs&&full&&decide (xs.length*by_≤140737488355328)&&decide (xs.length≤140737488355328)) (K (.own n) (a6 σ n (some (.arr false z xs))) (n+1))
     | some (full,r::rows)=>aF xs.isEmpty (K (.p st) σ (n+1)) (C.uB (full&&dG z (r::rows)&&dG z xs&&decide (((r::rows).length+xs.length)*by_≤140737488355328)&&decide ((r::rows).length+xs.length≤140737488355328)) (K (.own n) (a6 σ n (some (.arr false z (GQ (r::rows) xs)))) (n+1)))
     | none=>C.bad 111
    | .own k₀=>match σ k₀ with
     | some (.arr ro z' rs)=>match ro with
      | false=>C.uB (decide (z'=z)&&dG z xs&&decide ((rs.length+xs.length)*by_≤140737488355328)&&decide (rs.length+xs.length≤140737488355328)) (K (.own n) (a6 (a6 σ k₀ none) n (some (.arr false z (rs++xs)))) (n+1))
      | true=>C.bad 112
     | _=>C.bad 113
    | _=>C.bad 114
   | false=>C.bad 115
  | _,_,_,_=>C.bad 116
 | false,some e=>AV C P σ n u e s x K
 | _,_=>C.bad 117
def XB (σ:Nat→Option aK) (n:Nat) (t:TypeId) (len cap:D) (K:KN):Prop :=
 match gR P t with
 | some e =>
  match tsz? P e,tby? P e,tz? P e,len,cap with
  | some z,some by_,some zv,.p (.v (.int _ a)),.p (.v (.int _ b)) =>
   match decide (0<z)&&zv.cells.size == z&&zv.cells.all Value.oneCell' with
   | true=>C.uB ((decide (a=b)||decide (a=0))&&decide (0≤b)&&decide (b*by_≤140737488355328)&&decide (b≤140737488355328)) (K (.own n) (a6 σ n (some (.arr false z (List.replicate a.toNat (zv.cells.toList.map .v))))) (n+1))
   | false=>C.bad 121
  | _,_,_,_,_=>C.bad 122
 | none=>C.bad 123
def AB1 (σ:Nat→Option aK) (n:Nat) (t:TypeId) (x i v:D) (K:KN):Prop :=
 match P.underlying t with
 | some (.map kt _) =>
  match mY P kt,i,x with
  | some kd,.p (.v k),.map m =>
   match sZ kd k,σ m with
   | true,some (.map ro es)=>match ro with
    | false=>C.opt _ (findD kd k es 0) fun r=>K (.p (.v undef)) (a6 σ m (some (.map false (kM es r k v)))) (n+1)
    | true=>C.bad 131
   | _,_=>C.bad 132
  | _,_,_=>C.bad 133
 | _=>C.bad 134
def XM (σ:Nat→Option aK) (n:Nat) (isString:Bool) (d:D) (K:KN):Prop :=
 match isString,d with
 | true,.it k=>match σ k with
  | some (.kN s pos)=>aF (decide (pos<s.size)) (K (.p (.v (.tuple #[.bool true,.int .i64 pos,.int .i32 (Utf8.decode s pos).1]))) (a6 σ k (some (.kN s (pos+(Utf8.decode s pos).2)))) (n+1)) (K (.p (.v (.tuple #[.bool false]))) σ (n+1))
  | _=>C.bad 141
 | _,_=>C.bad 142
def VX (fid:FuncId):Option Sy:=match P.funcs[fid]? with
 | some fn=>match fn.resultTypes.toList with
  | [t]=>match gR P t with
   | some e=>LO P e
   | none=>none
  | _=>none
 | none=>none
def ADB (z:Nat) (g:List (List T)→Option (List (List T))) (σ:Nat→Option aK) (n:Nat) (args:List D) (K:KN):Prop :=
 match args with
 | [.own k]=>match σ k with
  | some (.arr ro z' rows)=>match ro,decide (z'=z) with
   | false,true=>C.opt (List (List T)) (g rows) fun rows'=>K (.p (.v (.tuple #[]))) (a6 σ k (some (.arr false z rows'))) (n+1)
   | _,_=>C.bad 155
  | _=>C.bad 156
 | _=>C.bad 157
def AC3 (z:Nat) (g:List (List T)→List T→Option (List (List T))) (o:Option Sy) (σ:Nat→Option aK) (n:Nat) (args:List D) (K:KN):Prop :=
 match o,args with
 | some r,.own k::rest=>match σ k,iR rest with
  | some (.arr ro z' rows),some ts=>match ro,decide (z'=z)&&decide (r.w=z) with
   | false,true=>C.fresh r (g rows ts) fun l=>K (.own n) (a6 (a6 σ k none) n (some (.arr false r.w (l.map r.enc)))) (n+1)
   | _,_=>C.bad 165
  | _,_=>C.bad 166
 | _,_=>C.bad 167
def AGA (z y:Nat) (σ:Nat→Option aK) (n:Nat) (args:List D) (K:KN):Prop :=
 match args with
 | [.own k]=>match σ k with
  | some (.arr _ z' rows)=>match decide (z'=z) with
   | true=>C.uB (decide (rows.length*y≤140737488355328)&&decide (rows.length≤140737488355328)) (K (.own n) (a6 σ n (some (.arr false z rows))) (n+1))
   | false=>C.bad 168
  | _=>C.bad 169
 | [.p t]=>match dF t with
  | some (_,rows)=>C.uB ((rows.all fun r=>decide (r.length=z))&&decide (rows.length*y≤140737488355328)&&decide (rows.length≤140737488355328)) (K (.own n) (a6 σ n (some (.arr false z rows))) (n+1))
  | none=>C.bad 170
 | _=>C.bad 171
def ZM (z y:Nat) (σ:Nat→Option aK) (n:Nat) (args:List D) (K:KN):Prop :=
 match args with
 | [.p (.v (.slice none 0 0)),.p (.v (.int .i64 m))]=>C.uB (decide (0≤m)&&decide (m.toNat*y≤140737488355328)&&decide (m.toNat≤140737488355328)) (K (.own n) (a6 σ n (some (.arr false z []))) (n+1))
 | _=>C.bad 172
def WZ:Sy→Nat→Option Nat
 | .pr a b,c=>match Nat.blt c a.w with
  | true=>WZ a c
  | false=>WZ b (c-a.w)
 | .li r,0=>some r.w
 | _,_=>none
def ADA (c:Nat) (g:List T→Option T) (fid:FuncId) (σ:Nat→Option aK) (n:Nat) (args:List D) (K:KN):Prop :=
 match ZD P fid,iR args with
 | some [(true,sy)],some ts=>match WZ sy c with
  | some z=>C.call [(true,sy)] (g ts) fun y=>match (sy.enc y)[c]? with
   | some (.sl _ rows)=>C.uB (!rows.isEmpty&&dG z rows) (K (.agg (((sy.enc y).map D.p).set c (.own n))) (a6 σ n (some (.arr false z rows))) (n+1))
   | _=>C.bad 175
  | none=>C.bad 176
 | _,_=>C.bad 177
def AHC (fid:FuncId):Option Sy:=match P.funcs[fid]? with
 | some fn=>match fn.params.toList with
  | t::_=>match P.underlying t with
   | some (.pointer e)=>LO P e
   | _=>none
  | []=>none
 | none=>none
theorem T3 (s:Bool×Sy) (ss:Sh) (y:Sh.den (s::ss)):T2 (Sh.fS (s::ss) y)=Sh.enc (s::ss) y:=by
 cases ss with
 | nil=>rfl
 | cons a l=>cases l<;>rfl
def AC5 (g:List T→Option T) (fid:FuncId) (σ:Nat→Option aK) (n:Nat) (args:List D) (K:KN):Prop :=
 match args with
 | .ptr k i j::rest=>match decide (i=0)&&decide (j=0),σ k with
  | true,some (.rows ro [ds])=>match ro,iR ds,iR rest with
   | false,some cs,some ts=>match AHC P fid,ZD P fid with
    | some sy,some (s::ss)=>match decide (sy.w=cs.length) with
     | true=>C.call ((true,sy)::s::ss) (g (.agg cs::ts)) fun y=>K (.p (Sh.enc (s::ss) y.2)) (a6 σ k (some (.rows false [(sy.enc y.1).map .p]))) (n+1)
     | false=>C.bad 181
    | _,_=>C.bad 182
   | _,_,_=>C.bad 183
  | _,_=>C.bad 184
 | _=>C.bad 185
def NA (σ:Nat→Option aK) (n:Nat) (f:D) (args:List D) (K:KN):Prop :=
 match fH f with
 | some (fid,a,b)=>match E fid with
  | some (.perm z g)=>ADB C z g σ n (a++args++b) K
  | some (.grow z g)=>AC3 C z g (VX P fid) σ n (a++args++b) K
  | some (.dup z y)=>AGA C z y σ n (a++args++b) K
  | some (.room z y)=>ZM C z y σ n (a++args++b) K
  | some (.kG g)=>AC5 C P g fid σ n (a++args++b) K
  | some (.part c g)=>ADA C P c g fid σ n (a++args++b) K
  | _=>match E fid,VX P fid,iR (a++args++b) with
   | some (.fresh g),some r,some ts=>C.fresh r (g ts) fun l=>aF l.isEmpty (K (.p (.sl false [])) σ (n+1)) (K (.own n) (a6 σ n (some (.arr false r.w (l.map r.enc)))) (n+1))
   | some (.BX g),some r,some ts=>C.fresh r (g ts) fun l=>aF l.isEmpty (K (.p (.sl true [])) σ (n+1)) (C.uB ((l.map r.enc).all fun x=>x.all T.flat) (K (.own n) (a6 σ n (some (.arr false r.w (l.map r.enc)))) (n+1)))
   | _,_,_=>C.bad 151
 | none=>C.bad 152
def nvS (σ:Nat→Option aK) (s:Nat→D) (n:Nat) (op:Op) (K:KN):Prop :=
 match op with
 | .store t a v=>OP C P σ n t (ev s a) (ev s v) K
 | .makeSlice t l c=>XB C P σ n t (ev s l) (ev s c) K
 | .mapUpdate t m i v=>AB1 C P σ n t (ev s m) (ev s i) (ev s v) K
 | .insert t m i v=>AB1 C P σ n t (ev s m) (ev s i) (ev s v) K
 | .next it isString=>XM C σ n isString (ev s it) K
 | .call c =>
  match c.callee,c.args.toList,c.argTypes.toList with
  | .builtin .append,[x,y],[t,u]=>GK C P σ n t u (ev s x) (ev s y) K
  | .value f,as,_=>NA C P E σ n (ev s f) (as.map (ev s)) K
  | _,_,_=>C.bad 161
 | op=>ACC C 162 (nv P E σ s n op) K
end
section
variable {P : Program} {E : Env}
theorem E4 {c:Nat} {x:Option (D×(Nat→Option aK)×Nat)} {K:KN} (h:ACC jA c x K):∃ d σ' n',x=some (d,σ',n')∧K d σ' n':=by
 unfold ACC at h
 split at h
 ·exact ⟨_,_,_,rfl,h⟩
 ·exact h.elim
theorem LN {σ:Nat→Option aK} {n:Nat} {t:TypeId} {a v:D} {K:KN} (h:OP jA P σ n t a v K):∃ d σ' n',one n ((fG P σ t a v).map fun σ'=>(D.p (.v undef),σ'))=some (d,σ',n')∧K d σ' n':=by
 unfold OP at h
 split at h
 ·rename_i k i j
  split at h
  ·rename_i ro za rows hσ
   split at h
   ·rename_i z ts hz hts
    split at h
    ·rename_i hc
     simp only[Bool.and_eq_true,decide_eq_true_eq,beq_iff_eq] at hc
     obtain ⟨r,hr,hb,hk⟩:=h
     have hb:j+z≤r.length:=of_decide_eq_true hb
     refine ⟨_,_,_,?_,hk⟩
     simp only[one,fG,hσ,hz,hr,hts]
     rw[if_pos ⟨hc.1.1,hc.1.2,hb,hc.2⟩]
     rfl
    ·exact h.elim
   ·exact h.elim
  ·exact E4 h
 ·exact h.elim
theorem DK {σ:Nat→Option aK} {n:Nat} {t u e:TypeId} {s x:D} {K:KN} (he:gR P t=some e) (h:AV jA P σ n u e s x K):∃ d σ' n',one n (mJ P σ n t u s x)=some (d,σ',n')∧K d σ' n':=by
 unfold AV at h
 split at h
 ·rename_i b hu
  split at h
  ·rename_i z by_ zv k₀ hz hby hzv
   split at h
   ·rename_i z' rs hc hσ
    simp only[Bool.and_eq_true,decide_eq_true_eq,beq_iff_eq] at hc
    obtain ⟨hb,hk⟩:=h
    simp only[Bool.and_eq_true,decide_eq_true_eq] at hb
    refine ⟨_,_,_,?_,hk⟩
    simp only[one,mJ,he,hu,hz,hby,hzv]
    rw[if_pos ⟨hc.1.1,hc.1.2,hc.2⟩]
    simp only[hσ]
    rw[if_pos ⟨hb.1.1,hb.1.2,hb.2⟩]
    rfl
   ·exact h.elim
  ·exact h.elim
 ·exact h.elim
theorem GL {σ:Nat→Option aK} {n:Nat} {t u:TypeId} {s x:D} {K:KN} (h:GK jA P σ n t u s x K):∃ d σ' n',one n (eR P σ n t u s x)=some (d,σ',n')∧K d σ' n':=by
 unfold GK at h
 split at h
 ·rename_i e htu he
  have htu:t=u:=of_decide_eq_true htu
  split at h
  ·rename_i z by_ zv xs hz hby hzv hxs
   split at h
   ·rename_i hc
    simp only[Bool.and_eq_true,decide_eq_true_eq,beq_iff_eq] at hc
    split at h
    ·rename_i st
     split at h
     ·rename_i full hrow
      obtain ⟨hb,hk⟩:=h
      simp only[Bool.and_eq_true,decide_eq_true_eq] at hb
      refine ⟨_,_,_,?_,hk⟩
      simp only[one,eR,if_pos htu,he,hz,hby,hzv,hxs]
      rw[if_pos ⟨hc.1.1,hc.1.2,hc.2,hb.1.1.1⟩]
      simp only[hrow]
      rw[if_pos ⟨hb.1.1.2,hb.1.2,hb.2⟩]
      rfl
     ·rename_i full r rows hrow
      rw[fN] at h
      cases xs with
      | nil =>
       refine ⟨_,_,_,?_,h.1 rfl⟩
       simp only[one,eR,if_pos htu,he,hz,hby,hzv,hxs]
       rw[if_pos ⟨hc.1.1,hc.1.2,hc.2,rfl⟩]
       simp only[hrow]
       rfl
      | cons x0 xs =>
       obtain ⟨hb,hk⟩:=h.2 rfl
       simp only[Bool.and_eq_true,decide_eq_true_eq] at hb
       refine ⟨_,_,_,?_,hk⟩
       simp only[one,eR,if_pos htu,he,hz,hby,hzv,hxs]
       rw[if_pos ⟨hc.1.1,hc.1.2,hc.2,hb.1.1.2⟩]
       simp only[hrow]
       rw[if_pos ⟨hb.1.1.1.1,hb.1.1.1.2,hb.1.2,hb.2⟩]
       rfl
     ·exact h.elim
    ·rename_i k₀
     split at h
     ·rename_i ro z' rs hσ
      split at h
      ·obtain ⟨hb,hk⟩:=h
       simp only[Bool.and_eq_true,decide_eq_true_eq] at hb
       refine ⟨_,_,_,?_,hk⟩
       simp only[one,eR,if_pos htu,he,hz,hby,hzv,hxs]
       rw[if_pos ⟨hc.1.1,hc.1.2,hc.2,hb.1.1.2⟩]
       simp only[hσ]
       rw[if_pos ⟨hb.1.1.1,hb.1.2,hb.2⟩]
       rfl
      ·exact h.elim
     ·exact h.elim
    ·exact h.elim
   ·exact h.elim
  ·exact h.elim
 ·rename_i e htu he
  obtain ⟨d,σ',n',h1,h2⟩:=DK (t:=t) he h
  refine ⟨d,σ',n',?_,h2⟩
  unfold eR
  rw[if_neg (of_decide_eq_false htu)]
  exact h1
 ·exact h.elim
theorem N1 {σ:Nat→Option aK} {n:Nat} {t:TypeId} {a b:D} {K:KN} (h:XB jA P σ n t a b K):∃ d σ' n',one n (EW P σ n t a b)=some (d,σ',n')∧K d σ' n':=by
 unfold XB at h
 split at h
 ·rename_i e he
  split at h
  ·rename_i z by_ zv k1 x k2 y hz hby hzv
   split at h
   ·rename_i hc
    simp only[Bool.and_eq_true,decide_eq_true_eq,beq_iff_eq] at hc
    obtain ⟨hb,hk⟩:=h
    simp only[Bool.and_eq_true,Bool.or_eq_true,decide_eq_true_eq] at hb
    refine ⟨_,_,_,?_,hk⟩
    simp only[one,EW,he,hz,hby,hzv]
    rw[if_pos ⟨hb.1.1.1,hb.1.1.2,hb.1.2,hb.2,hc.1.1,hc.1.2,hc.2⟩]
    rfl
   ·exact h.elim
  ·exact h.elim
 ·exact h.elim
theorem E0 {σ:Nat→Option aK} {n:Nat} {t:TypeId} {x i v:D} {K:KN} (h:AB1 jA P σ n t x i v K):∃ d σ' n',one n ((KU P σ t x i v).map fun σ'=>(D.p (.v undef),σ'))=some (d,σ',n')∧K d σ' n':=by
 unfold AB1 at h
 split at h
 ·rename_i kt et hu
  split at h
  ·rename_i kd k m hk
   split at h
   ·rename_i ro es hkey hσ
    split at h
    ·obtain ⟨r,hr,hk'⟩:=h
     refine ⟨_,_,_,?_,hk'⟩
     simp only[one,KU,hu,hk,hkey,hσ,hr]
     rfl
    ·exact h.elim
   ·exact h.elim
  ·exact h.elim
 ·exact h.elim
theorem N3 {σ:Nat→Option aK} {n:Nat} {b:Bool} {x:D} {K:KN} (h:XM jA σ n b x K):∃ d σ' n',one n (E1 σ b x)=some (d,σ',n')∧K d σ' n':=by
 unfold XM at h
 split at h
 ·rename_i k
  split at h
  ·rename_i s pos hσ
   rw[fN] at h
   by_cases hp:pos<s.size
   ·refine ⟨_,_,_,?_,h.1 (by simpa using hp)⟩
    simp only[one,E1,hσ]
    rw[if_pos hp]
    rfl
   ·refine ⟨_,_,_,?_,h.2 (by simpa using hp)⟩
    simp only[one,E1,hσ]
    rw[if_neg hp]
    rfl
  ·exact h.elim
 ·exact h.elim
theorem JX {σ:Nat→Option aK} {n:Nat} {f:D} {args:List D} {K:KN} (h:NA jA P E σ n f args K):∃ d σ' n',iS E σ n f args=some (d,σ',n')∧K d σ' n':=by
 unfold NA at h
 split at h
 ·rename_i fid a b hc
  split at h
  ·rename_i z g hE
   unfold ADB at h
   split at h
   ·rename_i k hargs
    split at h
    ·rename_i ro z' rows hσ
     split at h
     ·rename_i hz
      obtain ⟨rows',h1,h2⟩:=h
      refine ⟨_,_,_,?_,h2⟩
      simp only[iS,hc,hE,oL,hargs,hσ,hz,h1,Option.map_some]
     ·exact h.elim
    ·exact h.elim
   ·exact h.elim
  ·rename_i z g hE
   unfold AC3 at h
   split at h
   ·rename_i r k rest hr hargs
    split at h
    ·rename_i ro z' rows ts hσ hts
     split at h
     ·rename_i hz
      obtain ⟨l,h1,h2⟩:=h
      rw[Bool.and_eq_true] at hz
      have hw:r.w=z:=of_decide_eq_true hz.2
      rw[hw] at h2
      refine ⟨_,_,_,?_,h2⟩
      simp only[iS,hc,hE,nL,hargs,hσ,hts,hz.1,h1,Option.map_some]
     ·exact h.elim
    ·exact h.elim
   ·exact h.elim
  ·rename_i z g hE
   unfold AGA at h
   split at h
   ·rename_i k hargs
    split at h
    ·rename_i ro z' rows hσ
     split at h
     ·rename_i hz
      obtain ⟨h1,h2⟩:=h
      refine ⟨_,_,_,?_,h2⟩
      rw[Bool.and_eq_true] at h1
      simp only[iS,hc,hE,NB,hargs,hσ,hz,h1.1,h1.2,Bool.and_true]
     ·exact h.elim
    ·exact h.elim
   ·rename_i t hargs
    split at h
    ·rename_i full rows hr
     obtain ⟨h1,h2⟩:=h
     refine ⟨_,_,_,?_,h2⟩
     simp only[iS,hc,hE,NB,hargs,hr,h1]
    ·exact h.elim
   ·exact h.elim
  ·rename_i z g hE
   unfold ZM at h
   split at h
   ·rename_i m hargs
    obtain ⟨h1,h2⟩:=h
    refine ⟨_,_,_,?_,h2⟩
    simp only[iS,hc,hE,yD,hargs,h1]
   ·exact h.elim
  ·rename_i g hE
   unfold AC5 at h
   split at h
   ·rename_i k i j rest hargs
    split at h
    ·rename_i ro ds hij hσ
     split at h
     ·rename_i cs ts hcs hts
      split at h
      ·rename_i sy s ss hsy hs
       split at h
       ·rename_i hw
        obtain ⟨y,h1,h2⟩:=h
        refine ⟨_,_,_,?_,h2⟩
        have h1':g (.agg cs::ts)=some (.bN (.agg (sy.enc y.1)::Sh.fS (s::ss) y.2)):=h1
        have hl:decide ((sy.enc y.1).length=cs.length)=true:=by rw[Sy.cP];exact hw
        simp only[iS,hc,hE,yC,hargs,hij,hσ,hcs,hts,h1',hl,T3]
       ·exact h.elim
      ·exact h.elim
     ·exact h.elim
    ·exact h.elim
   ·exact h.elim
  ·rename_i c g hE
   unfold ADA at h
   split at h
   ·rename_i sy ts hsh hts
    split at h
    ·rename_i z hz
     obtain ⟨y,hg,h⟩:=h
     split at h
     ·rename_i fl rows hcc
      obtain ⟨h1,h2⟩:=h
      refine ⟨_,_,_,?_,h2⟩
      rw[Bool.and_eq_true] at h1
      have hg':g ts=some (.agg (sy.enc y)):=hg
      cases rows with
      | nil=>cases h1.1
      | cons r rows =>
       have hr:r.length=z:=by
        have:=List.all_eq_true.1 h1.2 r List.mem_cons_self
        simpa using this
       subst hr
       simp only[iS,hc,hE,hts,hg',hcc]
     ·exact h.elim
    ·exact h.elim
   ·exact h.elim
  ·split at h
   ·rename_i g r ts hE hr hts
    obtain ⟨l,h1,h2⟩:=h
    rw[fN] at h2
    cases l with
    | nil =>
     refine ⟨_,_,_,?_,h2.1 rfl⟩
     simp only[iS,hc,hE,hts,h1]
     rfl
    | cons x l =>
     refine ⟨_,_,_,?_,h2.2 rfl⟩
     simp only[iS,hc,hE,hts,h1,List.map_cons,Sy.cP]
   ·rename_i g r ts hE hr hts
    obtain ⟨l,h1,h2⟩:=h
    rw[fN] at h2
    have hm:(a++args++b).mapM (eO σ 4)=some ts:=by rw[dX hts];exact B0 σ 4 ts
    cases l with
    | nil =>
     refine ⟨_,_,_,?_,h2.1 rfl⟩
     simp only[iS,hc,hE,hm,h1]
     rfl
    | cons x l =>
     obtain ⟨h3,h4⟩:=h2.2 rfl
     refine ⟨_,_,_,?_,h4⟩
     rw[List.map_cons] at h3
     simp only[iS,hc,hE,hm,h1,List.map_cons,Sy.cP,h3]
   ·exact h.elim
 ·exact h.elim
theorem XS {σ:Nat→Option aK} {s:Nat→D} {n:Nat} {op:Op} {K:KN} (h:nvS jA P E σ s n op K):∃ d σ' n',nv P E σ s n op=some (d,σ',n')∧K d σ' n':=by
 unfold nvS at h
 split at h
 ·exact LN h
 ·exact N1 h
 ·exact E0 h
 ·exact E0 h
 ·exact N3 h
 ·rename_i c
  split at h
  ·rename_i x y t u hc ha hat
   obtain ⟨d,σ',n',h1,h2⟩:=GL h
   refine ⟨d,σ',n',?_,h2⟩
   simp only[nv,hc,ha,hat]
   exact h1
  ·rename_i f hc
   obtain ⟨d,σ',n',h1,h2⟩:=JX h
   refine ⟨d,σ',n',?_,h2⟩
   simp only[nv,hc,JF,h1]
  ·exact h.elim
 ·exact E4 h
end
def mH (σ:Nat→Option aK) (n:Nat) (σ':Nat→Option aK) (n':Nat):Prop:=n≤n'∧∀ k x,k<n→σ k=some x→dP x=false→σ' k=some x
theorem mH.refl (σ:Nat→Option aK) (n:Nat):mH σ n σ n:=⟨Nat.le_refl _,fun _ _ _ h _=>h⟩
theorem mH.trans {σ σ' σ'':Nat→Option aK} {n n' n'':Nat} (h:mH σ n σ' n') (h':mH σ' n' σ'' n''):mH σ n σ'' n'' :=
 ⟨Nat.le_trans h.1 h'.1,fun k x hk hx hw=>h'.2 k x (Nat.lt_of_lt_of_le hk h.1) (h.2 k x hk hx hw) hw⟩
theorem mH.new {σ:Nat→Option aK} {n n':Nat} (x:Option aK) (h:n≤n'):mH σ n (a6 σ n x) n':=⟨h,fun k y hk hy _=>by rw[aJ _ _ (by omega)];exact hy⟩
theorem mH.same {σ:Nat→Option aK} {n n':Nat} (h:n≤n'):mH σ n σ n':=⟨h,fun _ _ _ h _=>h⟩
theorem mH.set {σ:Nat→Option aK} {n n' m:Nat} {x₀:aK} (x:Option aK) (h:n≤n') (hm:σ m=some x₀) (hw:dP x₀=true):mH σ n (a6 σ m x) n':=⟨h,fun k y hk hy hy'=>by
 by_cases e:k=m
 ·subst e;rw[hm] at hy;cases hy;rw[hw] at hy';cases hy'
 ·rw[aJ _ _ e];exact hy⟩
def eT (E:Env):Prop:=∀ f g,E f≠some (.heap g)
section
variable {P : Program} {E : Env}
theorem dC {n:Nat} {x:Option (D×(Nat→Option aK))} {d:D} {σ':Nat→Option aK} {n':Nat} (h:one n x=some (d,σ',n')):x=some (d,σ')∧n'=n+1:=by
 unfold one at h
 cases x with
 | none=>cases h
 | some y=>obtain ⟨a,b⟩:=y;simp only[Option.map_some,Option.some.injEq,Prod.mk.injEq] at h;obtain ⟨rfl,rfl,rfl⟩:=h;exact ⟨rfl,rfl⟩
theorem VO (hh:eT E) {σ:Nat→Option aK} {n:Nat} {c:D} {args:List D} {d:D} {σ':Nat→Option aK} {n':Nat} (h:iS E σ n c args=some (d,σ',n')):mH σ n σ' n':=by
 unfold iS at h
 split at h
 ·split at h
  ·split at h
   ·split at h
    ·split at h
     ·cases h;exact .same (by omega)
     ·cases h;exact .new _ (by omega)
    ·cases h
   ·split at h
    ·split at h
     ·split at h
      ·cases h;exact .new _ (by omega)
      ·cases h
     ·cases h
    ·cases h
  ·split at h
   ·split at h
    ·cases h;exact .same (by omega)
    ·split at h
     ·cases h;exact .new _ (by omega)
     ·cases h
    ·cases h
   ·cases h
  ·rename_i hg;exact absurd hg (hh _ _)
  ·unfold oL at h
   split at h
   ·split at h
    ·rename_i hσ
     split at h
     ·simp only[Option.map_eq_some_iff,Prod.mk.injEq] at h
      obtain ⟨_,_,_,rfl,rfl⟩:=h
      exact .set _ (by omega) hσ rfl
     ·cases h
    ·cases h
   ·cases h
  ·unfold nL at h
   split at h
   ·split at h
    ·rename_i hσ
     split at h
     ·simp only[Option.map_eq_some_iff,Prod.mk.injEq] at h
      obtain ⟨_,_,_,rfl,rfl⟩:=h
      exact (mH.set (n':=n) none (Nat.le_refl _) hσ rfl).trans (.new _ (by omega))
     ·cases h
    ·cases h
   ·cases h
  ·unfold NB at h
   split at h
   ·split at h
    ·split at h
     ·simp only[Option.some.injEq,Prod.mk.injEq] at h
      obtain ⟨_,rfl,rfl⟩:=h
      exact .new _ (by omega)
     ·cases h
    ·cases h
   ·split at h
    ·split at h
     ·simp only[Option.some.injEq,Prod.mk.injEq] at h
      obtain ⟨_,rfl,rfl⟩:=h
      exact .new _ (by omega)
     ·cases h
    ·cases h
   ·cases h
  ·unfold yD at h
   split at h
   ·split at h
    ·simp only[Option.some.injEq,Prod.mk.injEq] at h
     obtain ⟨_,rfl,rfl⟩:=h
     exact .new _ (by omega)
    ·cases h
   ·cases h
  ·unfold yC at h
   split at h
   ·split at h
    ·rename_i hσ
     split at h
     ·split at h
      ·split at h
       ·simp only[Option.some.injEq,Prod.mk.injEq] at h
        obtain ⟨_,rfl,rfl⟩:=h
        exact .set _ (by omega) hσ rfl
       ·cases h
      ·cases h
     ·cases h
    ·cases h
   ·cases h
  ·split at h
   ·split at h
    ·split at h
     ·simp only[Option.some.injEq,Prod.mk.injEq] at h
      obtain ⟨_,rfl,rfl⟩:=h
      exact .new _ (by omega)
     ·cases h
    ·cases h
   ·cases h
  ·cases h
 ·cases h
theorem B6:∀ {ps ps':List (Nat×D)} {σ σ1:Nat→Option aK} {n n':Nat},n≤n'→r6 σ ps=some (ps',σ1)→mH σ n σ1 n'
 | [],ps',σ,σ1,n,n',hn,h=>by
  simp only[r6] at h
  cases h
  exact .same hn
 | p::ps,ps',σ,σ1,n,n',hn,h=>by
  obtain ⟨pi,pd⟩:=p
  unfold r6 at h
  split at h
  ·rename_i e;cases e
  ·rename_i i k r e
   cases e
   split at h
   ·rename_i z rows hk
    simp only[Option.map_eq_some_iff,Prod.mk.injEq] at h
    obtain ⟨⟨_,_⟩,hg,_,rfl⟩:=h
    exact (mH.set (n':=n) none (Nat.le_refl _) hk rfl).trans (B6 hn hg)
   ·cases h
  ·rename_i i d r _ e
   cases e
   simp only[Option.map_eq_some_iff,Prod.mk.injEq] at h
   obtain ⟨⟨_,_⟩,hg,_,rfl⟩:=h
   exact B6 hn hg
theorem AG3 (hh:eT E) {σ:Nat→Option aK} {s:Nat→D} {n:Nat} {op:Op} {d:D} {σ':Nat→Option aK} {n':Nat} (h:nv P E σ s n op=some (d,σ',n')):mH σ n σ' n':=by
 unfold nv at h
 split at h
 ·obtain ⟨h1,rfl⟩:=dC h
  cases hz:tz? P _ with
  | none=>rw[hz] at h1;cases h1
  | some z =>
   rw[hz] at h1
   simp only[Option.bind_some,Option.map_eq_some_iff,Prod.mk.injEq] at h1
   obtain ⟨b,_,rfl,rfl⟩:=h1
   exact .new _ (by omega)
 ·obtain ⟨h1,rfl⟩:=dC h
  simp only[Option.map_eq_some_iff,Prod.mk.injEq] at h1
  obtain ⟨b,_,rfl,rfl⟩:=h1
  exact .new _ (by omega)
 ·obtain ⟨h1,rfl⟩:=dC h
  simp only[Option.map_eq_some_iff,Prod.mk.injEq] at h1
  obtain ⟨σ₂,h2,rfl,rfl⟩:=h1
  unfold fG at h2
  split at h2
  ·split at h2
   ·rename_i hσ hz
    split at h2
    ·split at h2
     ·cases h2;exact .set _ (by omega) hσ rfl
     ·cases h2
    ·cases h2
   ·rename_i hσ hz
    split at h2
    ·split at h2
     ·cases h2;exact .set _ (by omega) hσ rfl
     ·cases h2
    ·cases h2
   ·cases h2
  ·cases h2
 ·split at h
  ·rename_i r hr
   obtain ⟨h1,rfl⟩:=dC h
   cases h1
   unfold P8 at hr
   split at hr
   ·split at hr
    ·cases hr;exact .new _ (by omega)
    ·cases hr
   ·cases hr;exact .new _ (by omega)
   ·cases hr;exact .new _ (by omega)
   ·cases hr
  ·obtain ⟨h1,rfl⟩:=dC h
   unfold OE at h1
   split at h1
   ·cases h1;exact .new _ (by omega)
   ·cases h1
 ·split at h
  ·obtain ⟨h1,rfl⟩:=dC h
   cases h1;exact .new _ (by omega)
  ·split at h
   ·obtain ⟨h1,rfl⟩:=dC h
    cases h1;exact .new _ (by omega)
   ·cases h
 ·obtain ⟨h1,rfl⟩:=dC h
  unfold EW at h1
  split at h1
  ·split at h1
   ·split at h1
    ·cases h1;exact .new _ (by omega)
    ·cases h1
   ·cases h1
  ·cases h1
 ·split at h
  ·rename_i hgv
   split at h
   ·obtain ⟨h1,rfl⟩:=dC h
    cases h1;exact (B6 (Nat.le_refl _) hgv).trans (.new _ (by omega))
   ·cases h
  ·cases h
 ·obtain ⟨h1,rfl⟩:=dC h
  simp only[Option.map_eq_some_iff,Prod.mk.injEq] at h1
  obtain ⟨σ₂,h2,rfl,rfl⟩:=h1
  unfold KU at h2
  split at h2
  ·split at h2
   ·split at h2
    ·rename_i hσ
     split at h2
     ·cases h2;exact .set _ (by omega) hσ rfl
     ·cases h2
    ·cases h2
   ·cases h2
  ·cases h2
 ·obtain ⟨h1,rfl⟩:=dC h
  simp only[Option.map_eq_some_iff,Prod.mk.injEq] at h1
  obtain ⟨σ₂,h2,rfl,rfl⟩:=h1
  unfold KU at h2
  split at h2
  ·split at h2
   ·split at h2
    ·rename_i hσ
     split at h2
     ·cases h2;exact .set _ (by omega) hσ rfl
     ·cases h2
    ·cases h2
   ·cases h2
  ·cases h2
 ·obtain ⟨h1,rfl⟩:=dC h
  unfold P5 at h1
  split at h1
  ·split at h1
   ·split at h1
    ·rename_i hσ
     split at h1
     ·cases h1;exact .set _ (by omega) hσ rfl
     ·cases h1;exact .set _ (by omega) hσ rfl
     ·cases h1
    ·cases h1
   ·cases h1
  ·cases h1
 ·obtain ⟨h1,rfl⟩:=dC h
  simp only[Option.map_eq_some_iff,Prod.mk.injEq] at h1
  obtain ⟨σ₂,h2,rfl,rfl⟩:=h1
  unfold P9 at h2
  split at h2
  ·split at h2
   ·rename_i hσ
    split at h2
    ·cases h2;exact .set _ (by omega) hσ rfl
    ·cases h2
   ·cases h2
  ·cases h2
 ·obtain ⟨h1,rfl⟩:=dC h
  simp only[Option.map_eq_some_iff,Prod.mk.injEq] at h1
  obtain ⟨_,_,_,rfl⟩:=h1
  exact .same (by omega)
 ·obtain ⟨h1,rfl⟩:=dC h
  unfold E1 at h1
  split at h1
  ·split at h1
   ·rename_i hσ
    split at h1
    ·cases h1;exact .set _ (by omega) hσ rfl
    ·cases h1;exact .same (by omega)
   ·cases h1
  ·cases h1
 ·split at h
  ·obtain ⟨h1,rfl⟩:=dC h
   unfold eR at h1
   split at h1
   ·split at h1
    ·split at h1
     ·split at h1
      ·split at h1
       ·split at h1
        ·split at h1
         ·cases h1;exact .new _ (by omega)
         ·cases h1
        ·split at h1
         ·cases h1;exact .same (by omega)
         ·split at h1
          ·cases h1;exact .new _ (by omega)
          ·cases h1
        ·cases h1
       ·split at h1
        ·rename_i hσ
         split at h1
         ·cases h1
          exact (mH.set (n':=n) none (Nat.le_refl _) hσ rfl).trans (.new _ (by omega))
         ·cases h1
        ·cases h1
       ·cases h1
      ·cases h1
     ·cases h1
    ·cases h1
   ·unfold mJ at h1
    split at h1
    ·split at h1
     ·split at h1
      ·split at h1
       ·split at h1
        ·rename_i hσ
         split at h1
         ·cases h1
          exact (mH.set (n':=n) none (Nat.le_refl _) hσ rfl).trans (.new _ (by omega))
         ·cases h1
        ·cases h1
       ·split at h1
        ·split at h1
         ·cases h1;exact .same (by omega)
         ·split at h1
          ·cases h1;exact .same (by omega)
          ·cases h1
        ·cases h1
       ·cases h1
      ·cases h1
     ·cases h1
    ·cases h1
  ·unfold JF at h
   split at h
   ·rename_i r hcf
    cases h
    exact VO hh hcf
   ·simp only[Option.map_eq_some_iff,Prod.mk.injEq] at h
    obtain ⟨_,_,_,rfl,rfl⟩:=h
    exact .same (Nat.le_refl _)
  ·obtain ⟨h1,rfl⟩:=dC h
   unfold PD at h1
   split at h1
   case h_2=>cases h1
   split at h1
   case h_2=>cases h1
   split at h1
   case h_2=>cases h1
   rename_i hσ
   split at h1
   ·cases h1;exact .set _ (by omega) hσ rfl
   ·cases h1
  ·cases h
 ·cases h
end
section
variable (C : Combs) (P : Program) (E : Env) (nt : Nat)
def splitK (ops:Array Oper) (o:Oper) (st:St) (K:St→Prop):Prop:=match o.guard with
 | none=>K st
 | some (j,_)=>match (ops[j]?).bind (·.dst) with
  | none=>K st
  | some t=>match st.s t with
   | .p (.v (.bool b))=>aF b (K ⟨a6 st.s t (.p (.v (.bool true))),st.σ,st.n⟩) (K ⟨a6 st.s t (.p (.v (.bool false))),st.σ,st.n⟩)
   | _=>K st
def xP (st:St) (dst:Option Tmp) (d:D) (σ':Nat→Option aK) (n':Nat) (K:St→Prop):Prop:=match kT nt st dst d σ' n' with
 | some st'=>K st'
 | none=>C.bad 201
def sC (ops:Array Oper) (o:Oper) (st:St) (K:St→Prop):Prop :=
 match dI ops st.s o with
 | some true=>match cB E o.op with
  | true=>qvS C P E st.n st.σ st.s (a8 true st.s) o.op fun d=>xP C nt st o.dst d st.σ st.n K
  | false=>nvS C P E st.σ (a8 true st.s) st.n o.op fun d σ' n'=>xP C nt st o.dst d σ' n' K
 | some false=>xP C nt st o.dst (.p (.v undef)) st.σ st.n K
 | none=>C.bad 202
end
def AHY (A:Nat→Bool) (st st':St):Prop:=∀ i,A i=false→st'.s i=st.s i
structure Fr (A:Nat→Bool) (st st':St):Prop where
 s:AHY A st st'
 b:mH st.σ st.n st'.σ st'.n
theorem Fr.refl (A:Nat→Bool) (st:St):Fr A st st:=⟨fun _ _=>rfl,mH.refl _ _⟩
theorem Fr.trans {A:Nat→Bool} {st st' st'':St} (h:Fr A st st') (h':Fr A st' st''):Fr A st st'':=⟨fun i hi=>(h'.s i hi).trans (h.s i hi),h.b.trans h'.b⟩
theorem Fr.mono {A B:Nat→Bool} {st st':St} (h:Fr A st st') (hab:∀ i,B i=false→A i=false):Fr B st st':=⟨fun i hi=>h.s i (hab i hi),h.b⟩
section
variable {P : Program} {E : Env} {nt : Nat} {ops : Array Oper}
theorem lH {o:Oper} {st:St} {K:St→Prop} (h:splitK ops o st K):K st:=by
 unfold splitK at h
 split at h
 ·exact h
 ·split at h
  ·exact h
  ·rename_i t ht
   split at h
   ·rename_i b hb
    have key:∀ c,b=c→(⟨a6 st.s t (.p (.v (.bool c))),st.σ,st.n⟩:St)=st:=by
     intro c hc
     subst hc
     have:a6 st.s t (.p (.v (.bool b)))=st.s:=by
      funext i
      by_cases e:i=t
      ·subst e;rw[dJ,hb]
      ·rw[aJ _ _ e]
     rw[this]
    cases b with
    | true=>rw[←key true rfl];exact h
    | false=>rw[←key false rfl];exact h
   ·exact h
theorem eL {st:St} {dst:Option Tmp} {d:D} {σ':Nat→Option aK} {n':Nat} {K:St→Prop} (h:xP jA nt st dst d σ' n' K):∃ st',kT nt st dst d σ' n'=some st'∧K st':=by
 unfold xP at h
 split at h
 ·exact ⟨_,‹_›,h⟩
 ·exact h.elim
theorem eX {o:Oper} {st:St} {K:St→Prop} (h:sC jA P E nt ops o st K):∃ st',c8 P E nt ops o st=some st'∧K st':=by
 unfold sC at h
 unfold c8
 split at h
 ·rename_i hg
  split at h
  ·rename_i hq
   obtain ⟨d,h1,h2⟩:=YS h
   obtain ⟨st',h3,h4⟩:=eL h2
   exact ⟨st',by simp only[hq,if_true,dV,hg,h1,h3],h4⟩
  ·rename_i hq
   obtain ⟨d,σ',n',h1,h2⟩:=XS h
   obtain ⟨st',h3,h4⟩:=eL h2
   exact ⟨st',by simp only[hq,Bool.false_eq_true,if_false,hg,h1,h3],h4⟩
 ·rename_i hg
  obtain ⟨st',h3,h4⟩:=eL h
  refine ⟨st',?_,h4⟩
  by_cases hq:cB E o.op=true
  ·simp only[hq,if_true,dV,hg,h3]
  ·simp only[hq,Bool.false_eq_true,if_false,hg,h3]
 ·exact h.elim
theorem jB {st st':St} {dst:Option Tmp} {d:D} {σ':Nat→Option aK} {n':Nat} {A:Nat→Bool} (h:kT nt st dst d σ' n'=some st') (hA:∀ t,dst=some t→A t=true) (hf:mH st.σ st.n σ' n'):Fr A st st':=by
 obtain ⟨_,rfl⟩:=lF h
 refine ⟨fun i hi=>?_,hf⟩
 unfold kU
 cases dst with
 | none=>rfl
 | some t=>exact aJ _ _ fun e=>by subst e;rw[hA _ rfl] at hi;cases hi
theorem gG (hh:eT E) {o:Oper} {st st':St} {A:Nat→Bool} (h:c8 P E nt ops o st=some st') (hA:∀ t,o.dst=some t→A t=true):Fr A st st':=by
 unfold c8 at h
 split at h
 ·split at h
  ·exact jB h hA (mH.refl _ _)
  ·cases h
 ·split at h
  ·split at h
   ·rename_i d σ' n' hn
    exact jB h hA (AG3 hh hn)
   ·cases h
  ·exact jB h hA (mH.refl _ _)
  ·cases h
end
end Go.Pv
