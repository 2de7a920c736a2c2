/-
  The symbolic executor, part c: operations that write or make memory; a whole region.
-/
import Derived.Test.YtcnfagefgkblkaaGreatDoorVrkb
set_option linter.defProp false
set_option linter.unusedSimpArgs false
namespace Go.Pv
open Go Go.RowKit
abbrev KN:=D->(Nat->Option bE)->Nat->Prop
section
variable (C : Combs) (P : Program) (E : Env)
def BFZ (c:Nat) (x:Option (D×(Nat->Option bE)×Nat)) (K:KN):Prop:=match x with
 | some (d,σ',n')=>K d σ' n'
 | none=>C.bad c
def AN1 (σ:Nat->Option bE) (n:Nat) (t:TypeId) (a v:D) (K:KN):Prop :=
 match a with
 | .ptr k i j=>match σ k with
  | some (.arr ro za rows)=>match ro,tsz? P t,j0 v.cells with
   | false,some z,some ts=>match decide (0<z)&&ts.length == z&&ts.all T.leaf with
    | true=>C.row rows i λr=>C.zX (decide (j+z<=r.length)) (K (.p (.v undef)) (b8 σ k (some (.arr false za (rows.set i (bR r j ts))))) (n+1))
    | false=>C.bad 101
   | _,_,_=>C.bad 102
  | _=>BFZ C 103 (one n ((kZ P σ t a v).map λσ'=>(.p (.v undef),σ'))) K
 | _=>C.bad 104
def BQM (a b:List (List T)):List (List T):=a++b
def OF (σ:Nat->Option bE) (n:Nat) (u e:TypeId) (s x:D) (K:KN):Prop :=
 match P.underlying u,x with
 | some .string,.p (.v (.string b))=>match tsz? P e,tby? P e,tz? P e,s with
  | some z,some by_,some zv,.own k₀=>match decide (z=1)&&zv.cells.size == 1&&zv.cells.all Value.oneCell',σ k₀ with
   | true,some (.arr false z' rs)=>C.zX (decide (z'=1)&&decide ((rs.length+b.size)*by_<=140737488355328)&&decide (rs.length+b.size<=140737488355328)) (K (.own n) (b8 (b8 σ k₀ none) n (some (.arr false 1 (rs++dD b)))) (n+1))
   | _,_=>C.bad 118
  | _,_,_,_=>C.bad 119
 | _,_=>C.bad 117
def W8 (σ:Nat->Option bE) (n:Nat) (t u:TypeId) (s x:D) (K:KN):Prop :=
 match decide (t=u),mA P t with
 | true,some e =>
  match tsz? P e,tby? P e,tz? P e,JA σ x with
  | some z,some by_,some zv,some xs =>
   match decide (0<z)&&zv.cells.size == z&&zv.cells.all Value.oneCell' with
   | true=>match s with
    | .p st=>match fP st with
     | some (full,[])=>C.zX (eP z xs&&full&&decide (xs.length*by_<=140737488355328)&&decide (xs.length<=140737488355328)) (K (.own n) (b8 σ n (some (.arr false z xs))) (n+1))
     | some (full,r::rows)=>aD xs.isEmpty (K (.p st) σ (n+1)) (C.zX (full&&eP z (r::rows)&&eP z xs&&decide (((r::rows).length+xs.length)*by_<=140737488355328)&&decide ((r::rows).length+xs.length<=140737488355328)) (K (.own n) (b8 σ n (some (.arr false z (BQM (r::rows) xs)))) (n+1)))
     | none=>C.bad 111
    | .own k₀=>match σ k₀ with
     | some (.arr ro z' rs)=>match ro with
      | false=>C.zX (decide (z'=z)&&eP z xs&&decide ((rs.length+xs.length)*by_<=140737488355328)&&decide (rs.length+xs.length<=140737488355328)) (K (.own n) (b8 (b8 σ k₀ none) n (some (.arr false z (rs++xs)))) (n+1))
      | true=>C.bad 112
     | _=>C.bad 113
    | _=>C.bad 114
   | false=>C.bad 115
  | _,_,_,_=>C.bad 116
 | false,some e=>OF C P σ n u e s x K
 | _,_=>C.bad 117
def A6X (σ:Nat->Option bE) (n:Nat) (t:TypeId) (len cap:D) (K:KN):Prop :=
 match mA P t with
 | some e =>
  match tsz? P e,tby? P e,tz? P e,len,cap with
  | some z,some by_,some zv,.p (.v (.int _ a)),.p (.v (.int _ b)) =>
   match decide (0<z)&&zv.cells.size == z&&zv.cells.all Value.oneCell' with
   | true=>C.zX ((decide (a=b)||decide (a=0))&&decide (0<=b)&&decide (b*by_<=140737488355328)&&decide (b<=140737488355328)) (K (.own n) (b8 σ n (some (.arr false z (List.replicate a.toNat (zv.cells.toList.map .v))))) (n+1))
   | false=>C.bad 121
  | _,_,_,_,_=>C.bad 122
 | none=>C.bad 123
def BEQ (σ:Nat->Option bE) (n:Nat) (t:TypeId) (x i v:D) (K:KN):Prop :=
 match P.underlying t with
 | some (.map kt _) =>
  match wB P kt,i,x with
  | some kd,.p (.v k),.map m =>
   match DZ kd k,σ m with
   | true,some (.map ro es)=>match ro with
    | false=>C.opt _ (findD kd k es 0) λr=>K (.p (.v undef)) (b8 σ m (some (.map false (dB es r k v)))) (n+1)
    | true=>C.bad 131
   | _,_=>C.bad 132
  | _,_,_=>C.bad 133
 | _=>C.bad 134
def A69 (σ:Nat->Option bE) (n:Nat) (isString:Bool) (d:D) (K:KN):Prop :=
 match isString,d with
 | true,.it k=>match σ k with
  | some (.kV s pos)=>aD (decide (pos<s.size)) (K (.p (.v (.tuple #[.bool true,.int .i64 pos,.int .i32 (Utf8.decode s pos).1]))) (b8 σ k (some (.kV s (pos+(Utf8.decode s pos).2)))) (n+1)) (K (.p (.v (.tuple #[.bool false]))) σ (n+1))
  | _=>C.bad 141
 | _,_=>C.bad 142
def A3Q (fid:FuncId):Option Sy:=match P.funcs[fid]? with
 | some fn=>match fn.resultTypes.toList with
  | [t]=>match mA P t with
   | some e=>AAI P e
   | none=>none
  | _=>none
 | none=>none
def BHI (z:Nat) (g:List (List T)->Option (List (List T))) (σ:Nat->Option bE) (n:Nat) (args:List D) (K:KN):Prop :=
 match args with
 | [.own k]=>match σ k with
  | some (.arr ro z' rows)=>match ro,decide (z'=z) with
   | false,true=>C.opt (List (List T)) (g rows) λrows'=>K (.p (.v (.tuple #[]))) (b8 σ k (some (.arr false z rows'))) (n+1)
   | _,_=>C.bad 155
  | _=>C.bad 156
 | _=>C.bad 157
def BHA (z:Nat) (g:List (List T)->List T->Option (List (List T))) (o:Option Sy) (σ:Nat->Option bE) (n:Nat) (args:List D) (K:KN):Prop :=
 match o,args with
 | some r,.own k::rest=>match σ k,j0 rest with
  | some (.arr ro z' rows),some ts=>match ro,decide (z'=z)&&decide (r.w=z) with
   | false,true=>C.fresh r (g rows ts) λl=>K (.own n) (b8 (b8 σ k none) n (some (.arr false r.w (l.map r.enc)))) (n+1)
   | _,_=>C.bad 165
  | _,_=>C.bad 166
 | _,_=>C.bad 167
def BO4 (z y:Nat) (σ:Nat->Option bE) (n:Nat) (args:List D) (K:KN):Prop :=
 match args with
 | [.own k]=>match σ k with
  | some (.arr _ z' rows)=>match decide (z'=z) with
   | true=>C.zX (decide (rows.length*y<=140737488355328)&&decide (rows.length<=140737488355328)) (K (.own n) (b8 σ n (some (.arr false z rows))) (n+1))
   | false=>C.bad 168
  | _=>C.bad 169
 | [.p t]=>match fP t with
  | some (_,rows)=>C.zX ((rows.all λr=>decide (r.length=z))&&decide (rows.length*y<=140737488355328)&&decide (rows.length<=140737488355328)) (K (.own n) (b8 σ n (some (.arr false z rows))) (n+1))
  | none=>C.bad 170
 | _=>C.bad 171
def A9Y (z y:Nat) (σ:Nat->Option bE) (n:Nat) (args:List D) (K:KN):Prop :=
 match args with
 | [.p (.v (.slice none 0 0)),.p (.v (.int .i64 m))]=>C.zX (decide (0<=m)&&decide (m.toNat*y<=140737488355328)&&decide (m.toNat<=140737488355328)) (K (.own n) (b8 σ n (some (.arr false z []))) (n+1))
 | _=>C.bad 172
def A6R:Sy->Nat->Option Nat
 | .pr a b,c=>match Nat.blt c a.w with
  | true=>A6R a c
  | false=>A6R b (c-a.w)
 | .li r,0=>some r.w
 | _,_=>none
def BHH (c:Nat) (g:List T->Option T) (fid:FuncId) (σ:Nat->Option bE) (n:Nat) (args:List D) (K:KN):Prop :=
 match VC P fid,j0 args with
 | some [(true,sy)],some ts=>match A6R sy c with
  | some z=>C.call [(true,sy)] (g ts) λy=>match (sy.enc y)[c]? with
   | some (.sl _ rows)=>C.zX (!rows.isEmpty&&eP z rows) (K (.agg (((sy.enc y).map D.p).set c (.own n))) (b8 σ n (some (.arr false z rows))) (n+1))
   | _=>C.bad 175
  | none=>C.bad 176
 | _,_=>C.bad 177
def BHK (fid:FuncId):Option Sy:=match P.funcs[fid]? with
 | some fn=>match fn.params.toList with
  | t::_=>match P.underlying t with
   | some (.pointer e)=>AAI P e
   | _=>none
  | []=>none
 | none=>none
def VD (s:Bool×Sy) (ss:Sh) (y:Sh.den (s::ss)):A83 (Sh.iS (s::ss) y)=Sh.enc (s::ss) y:=by
 cases ss with
 | nil=>rfl
 | cons a l=>cases l<;>rfl
def BHD (g:List T->Option T) (fid:FuncId) (σ:Nat->Option bE) (n:Nat) (args:List D) (K:KN):Prop :=
 match args with
 | .ptr k i j::rest=>match decide (i=0)&&decide (j=0),σ k with
  | true,some (.rows ro [ds])=>match ro,j0 ds,j0 rest with
   | false,some cs,some ts=>match BHK P fid,VC P fid with
    | some sy,some (s::ss)=>match decide (sy.w=cs.length) with
     | true=>C.call ((true,sy)::s::ss) (g (.agg cs::ts)) λy=>K (.p (Sh.enc (s::ss) y.2)) (b8 σ k (some (.rows false [(sy.enc y.1).map .p]))) (n+1)
     | false=>C.bad 181
    | _,_=>C.bad 182
   | _,_,_=>C.bad 183
  | _,_=>C.bad 184
 | _=>C.bad 185
def BHR:List TypeId->Option Sh
 | []=>some []
 | t::r=>match AAI P t,BHR r with
  | some y,some s=>some ((true,y)::s)
  | _,_=>none
def BG5 (vt:List TypeId) (g:List T->Option T) (fid:FuncId) (σ:Nat->Option bE) (n:Nat) (args:List D) (K:KN):Prop :=
 match XF fid args σ with
 | some (ins,rows,kk,σ1)=>match BHR P vt,VC P fid with
  | some (v::vs),some (s::ss)=>C.call (v::(vs++s::ss)) (g ins) λy=>match ALO rows (Sh.iS (v::(vs++s::ss)) y) with
   | true=>K (.p (A83 ((Sh.iS (v::(vs++s::ss)) y).drop rows.length))) (A9R σ1 kk (Sh.iS (v::(vs++s::ss)) y)) (n+1)
   | false=>C.bad 191
  | _,_=>C.bad 192
 | none=>C.bad 193
def BHL (g:List T->Option T) (fid:FuncId) (σ:Nat->Option bE) (n:Nat) (args:List D) (K:KN):Prop :=
 match AQA args σ with
 | some (k,cs,ts,σ1)=>match BHK P fid,VC P fid with
  | some sy,some (s::ss)=>match Nat.beq sy.w cs.length with
   | true=>C.call ((true,sy)::s::ss) (g (.agg cs::ts)) λy=>K (.p (Sh.enc (s::ss) y.2)) (b8 σ1 k (some (.rows false [(sy.enc y.1).map .p]))) (n+1)
   | false=>C.bad 194
  | _,_=>C.bad 195
 | none=>C.bad 196
def BG9 (g:List T->Option T) (fid:FuncId) (σ:Nat->Option bE) (n:Nat) (args:List D) (K:KN):Prop :=
 match UR σ (args.flatMap BHG) args with
 | some (args',σ1)=>match args'.mapM (iG (λ_=>none) 2),VC P fid with
  | some ts,some s=>C.call s (g (ts.map (T.canon 4))) λy=>K (.p (Sh.enc s y)) σ1 (n+1)
  | _,_=>C.bad 197
 | none=>C.bad 198
def AKN (σ:Nat->Option bE) (n:Nat) (f:D) (args:List D) (K:KN):Prop :=
 match jT f with
 | some (fid,a,b)=>match E fid with
  | some (.perm z g)=>BHI C z g σ n (a++args++b) K
  | some (.grow z g)=>BHA C z g (A3Q P fid) σ n (a++args++b) K
  | some (.dup z y)=>BO4 C z y σ n (a++args++b) K
  | some (.room z y)=>A9Y C z y σ n (a++args++b) K
  | some (.BEM g)=>BHD C P g fid σ n (a++args++b) K
  | some (.BJC vt g)=>BG5 C P vt g fid σ n (a++args++b) K
  | some (.BMR g)=>BHL C P g fid σ n (a++args++b) K
  | some (.BKW g)=>BG9 C P g fid σ n (a++args++b) K
  | some (.part c g)=>BHH C P c g fid σ n (a++args++b) K
  | _=>match E fid,A3Q P fid,j0 (a++args++b) with
   | some (.fresh g),some r,some ts=>C.fresh r (g ts) λl=>aD l.isEmpty (K (.p (.sl false [])) σ (n+1)) (K (.own n) (b8 σ n (some (.arr false r.w (l.map r.enc)))) (n+1))
   | some (.PL g),some r,some ts=>C.fresh r (g ts) λl=>aD l.isEmpty (K (.p (.sl true [])) σ (n+1)) (C.zX ((l.map r.enc).all λx=>x.all T.flat) (K (.own n) (b8 σ n (some (.arr false r.w (l.map r.enc)))) (n+1)))
   | _,_,_=>C.bad 151
 | none=>C.bad 152
def A29 (σ:Nat->Option bE) (n:Nat) (t:TypeId) (d s:D) (K:KN):Prop :=
 match mA P t with
 | some e=>match tsz? P e,JA σ s,d with
  | some z,some xs,.own k=>match σ k with
   | some (.arr ro z' rs)=>match ro,decide (z'=z) with
    | false,true=>C.zX (decide (xs.length=rs.length)&&decide (0<xs.length)&&eP z xs) (K (.p (.v (.int .i64 (xs.length:Int)))) (b8 σ k (some (.arr false z xs))) (n+1))
    | _,_=>C.bad 163
   | _=>C.bad 164
  | _,_,_=>C.bad 173
 | none=>C.bad 174
def nvS (σ:Nat->Option bE) (s:Nat->D) (n:Nat) (op:Op) (K:KN):Prop :=
 match op with
 | .store t a v=>AN1 C P σ n t (ev s a) (ev s v) K
 | .makeSlice t l c=>A6X C P σ n t (ev s l) (ev s c) K
 | .mapUpdate t m i v=>BEQ C P σ n t (ev s m) (ev s i) (ev s v) K
 | .insert t m i v=>BEQ C P σ n t (ev s m) (ev s i) (ev s v) K
 | .next it isString=>A69 C σ n isString (ev s it) K
 | .call c =>
  match c.callee,c.args.toList,c.argTypes.toList with
  | .builtin .append,[x,y],[t,u]=>W8 C P σ n t u (ev s x) (ev s y) K
  | .builtin .copy,[x,y],[t,_]=>A29 C P σ n t (ev s x) (ev s y) K
  | .value f,as,_=>AKN C P E σ n (ev s f) (as.map (ev s)) K
  | _,_,_=>C.bad 161
 | op=>BFZ C 162 (nv P E σ s n op) K
end
section
variable {P : Program} {E : Env}
variable {K:KN}
def U7 {c:Nat} {x:Option (D×(Nat->Option bE)×Nat)} (h:BFZ nL c x K):∃ d σ' n',x=some (d,σ',n')/\K d σ' n':=by
 unfold BFZ at h;split at h
 ·exact ⟨_,_,_,rfl,h⟩
 ·exact h.elim
variable {σ:Nat->Option bE}
def AGR {n:Nat} {t:TypeId} {a v:D} (h:AN1 nL P σ n t a v K):∃ d σ' n',one n ((kZ P σ t a v).map λσ'=>(D.p (.v undef),σ'))=some (d,σ',n')/\K d σ' n':=by
 unfold AN1 at h;split at h
 ·rename_i k i j;split at h
  ·rename_i ro za rows hσ;split at h
   ·rename_i z ts hz hts;split at h
    ·rename_i hc;obtain ⟨r,hr,hb,hk⟩:=h;refine ⟨_,_,_,?_,hk⟩;simp only[one,kZ,hσ,hz,hr,hts];simp_all
    ·exact h.elim
   ·exact h.elim
  ·exact U7 h
 ·exact h.elim
def SL {n:Nat} {t u e:TypeId} {s x:D} (he:mA P t=some e) (h:OF nL P σ n u e s x K):∃ d σ' n',one n (vH P σ n t u s x)=some (d,σ',n')/\K d σ' n':=by
 unfold OF at h;split at h
 ·rename_i b hu;split at h
  ·rename_i z by_ zv k₀ hz hby hzv;split at h
   ·rename_i z' rs hc hσ;simp only[ac,ae,beq_iff_eq] at hc;obtain ⟨hb,hk⟩:=h;refine ⟨_,_,_,?_,hk⟩;simp only[one,vH,he,hu,hz,hby,hzv];rw[if_pos ⟨hc.1.1,hc.1.2,hc.2⟩];simp_all
   ·exact h.elim
  ·exact h.elim
 ·exact h.elim
def W9 {n:Nat} {t u:TypeId} {s x:D} (h:W8 nL P σ n t u s x K):∃ d σ' n',one n (iX P σ n t u s x)=some (d,σ',n')/\K d σ' n':=by
 unfold W8 at h;split at h
 ·rename_i e htu he;have htu:t=u:=of_decide_eq_true htu;split at h
  ·rename_i z by_ zv xs hz hby hzv hxs;split at h
   ·rename_i hc;simp only[ac,ae,beq_iff_eq] at hc;split at h
    ·split at h
     ·obtain ⟨hb,hk⟩:=h;simp only[ac,ae] at hb;refine ⟨_,_,_,?_,hk⟩;simp only[one,iX,if_pos htu,he,hz,hby,hzv,hxs];rw[if_pos ⟨hc.1.1,hc.1.2,hc.2,hb.1.1.1⟩];simp_all
     ·rename_i full r rows hrow;rw[rA] at h;cases xs with
      | nil =>
       refine ⟨_,_,_,?_,h.1 rfl⟩;simp only[one,iX,if_pos htu,he,hz,hby,hzv,hxs];rw[if_pos ⟨hc.1.1,hc.1.2,hc.2,rfl⟩];simp_all
      | cons x0 xs =>
       obtain ⟨hb,hk⟩:=h.2 rfl;simp only[ac,ae] at hb;refine ⟨_,_,_,?_,hk⟩;simp only[one,iX,if_pos htu,he,hz,hby,hzv,hxs];rw[if_pos ⟨hc.1.1,hc.1.2,hc.2,hb.1.1.2⟩];simp only[hrow];rw[if_pos ⟨hb.1.1.1.1,hb.1.1.1.2,hb.1.2,hb.2⟩];rfl
     ·exact h.elim
    ·split at h
     ·split at h
      ·obtain ⟨hb,hk⟩:=h;simp only[ac,ae] at hb;refine ⟨_,_,_,?_,hk⟩;simp only[one,iX,if_pos htu,he,hz,hby,hzv,hxs];rw[if_pos ⟨hc.1.1,hc.1.2,hc.2,hb.1.1.2⟩];simp_all
      ·exact h.elim
     ·exact h.elim
    ·exact h.elim
   ·exact h.elim
  ·exact h.elim
 ·rename_i e htu he;obtain ⟨d,σ',n',h1,h2⟩:=SL (t:=t) he h;refine ⟨d,σ',n',?_,h2⟩;unfold iX;simp_all
 ·exact h.elim
def ALU {n:Nat} {t:TypeId} {a b:D} (h:A6X nL P σ n t a b K):∃ d σ' n',one n (UX P σ n t a b)=some (d,σ',n')/\K d σ' n':=by
 unfold A6X at h;split at h
 ·rename_i e he;split at h
  ·rename_i z by_ zv k1 x k2 y hz hby hzv;split at h
   ·rename_i hc;simp only[ac,ae,beq_iff_eq] at hc;obtain ⟨hb,hk⟩:=h;simp only[ac,Bool.or_eq_true,ae] at hb;refine ⟨_,_,_,?_,hk⟩;simp only[one,UX,he,hz,hby,hzv];rw[if_pos ⟨hb.1.1.1,hb.1.1.2,hb.1.2,hb.2,hc.1.1,hc.1.2,hc.2⟩];rfl
   ·exact h.elim
  ·exact h.elim
 ·exact h.elim
def U0 {n:Nat} {t:TypeId} {x i v:D} (h:BEQ nL P σ n t x i v K):∃ d σ' n',one n ((AFL P σ t x i v).map λσ'=>(D.p (.v undef),σ'))=some (d,σ',n')/\K d σ' n':=by
 unfold BEQ at h;split at h
 ·rename_i kt et hu;split at h
  ·rename_i kd k m hk;split at h
   ·rename_i ro es hkey hσ;split at h
    ·obtain ⟨r,hr,hk'⟩:=h;refine ⟨_,_,_,?_,hk'⟩;simp only[one,AFL,hu,hk,hkey,hσ,hr];rfl
    ·exact h.elim
   ·exact h.elim
  ·exact h.elim
 ·exact h.elim
def ALY {n:Nat} {b:Bool} {x:D} (h:A69 nL σ n b x K):∃ d σ' n',one n (U2 σ b x)=some (d,σ',n')/\K d σ' n':=by
 unfold A69 at h;split at h
 ·split at h
  ·rename_i s pos hσ;rw[rA] at h;by_cases hp:pos<s.size
   ·refine ⟨_,_,_,?_,h.1 (by simpa using hp)⟩;simp only[one,U2,hσ];simp_all
   ·refine ⟨_,_,_,?_,h.2 (by simpa using hp)⟩;simp only[one,U2,hσ];simp_all
  ·exact h.elim
 ·exact h.elim
def AC7 {n:Nat} {f:D} {args:List D} (h:AKN nL P E σ n f args K):∃ d σ' n',lC E σ n f args=some (d,σ',n')/\K d σ' n':=by
 unfold AKN at h;split at h
 ·rename_i fid a b hc;split at h
  ·rename_i z g hE;unfold BHI at h;split at h
   ·rename_i k hargs;split at h
    ·rename_i ro z' rows hσ;split at h
     ·rename_i hz;obtain ⟨rows',h1,h2⟩:=h;refine ⟨_,_,_,?_,h2⟩;simp only[lC,hc,hE,xV,hargs,hσ,hz,h1,Option.map_some]
     ·exact h.elim
    ·exact h.elim
   ·exact h.elim
  ·rename_i z g hE;unfold BHA at h;split at h
   ·rename_i r k rest hr hargs;split at h
    ·rename_i ro z' rows ts hσ hts;split at h
     ·rename_i hz;obtain ⟨l,h1,h2⟩:=h;rw[ac] at hz;have hw:r.w=z:=of_decide_eq_true hz.2;rw[hw] at h2;refine ⟨_,_,_,?_,h2⟩;simp only[lC,hc,hE,j5,hargs,hσ,hts,hz.1,h1,Option.map_some]
     ·exact h.elim
    ·exact h.elim
   ·exact h.elim
  ·rename_i z g hE;unfold BO4 at h;split at h
   ·rename_i k hargs;split at h
    ·rename_i ro z' rows hσ;split at h
     ·rename_i hz;obtain ⟨h1,h2⟩:=h;refine ⟨_,_,_,?_,h2⟩;rw[ac] at h1;simp only[lC,hc,hE,DU,hargs,hσ,hz,h1.1,h1.2,Bool.and_true]
     ·exact h.elim
    ·exact h.elim
   ·rename_i t hargs;split at h
    ·rename_i full rows hr;obtain ⟨h1,h2⟩:=h;refine ⟨_,_,_,?_,h2⟩;simp only[lC,hc,hE,DU,hargs,hr,h1]
    ·exact h.elim
   ·exact h.elim
  ·rename_i z g hE;unfold A9Y at h;split at h
   ·rename_i m hargs;obtain ⟨h1,h2⟩:=h;refine ⟨_,_,_,?_,h2⟩;simp only[lC,hc,hE,KQ,hargs,h1]
   ·exact h.elim
  ·rename_i g hE;unfold BHD at h;split at h
   ·rename_i k i j rest hargs;split at h
    ·rename_i ro ds hij hσ;split at h
     ·rename_i cs ts hcs hts;split at h
      ·rename_i sy s ss hsy hs;split at h
       ·rename_i hw;obtain ⟨y,h1,h2⟩:=h;refine ⟨_,_,_,?_,h2⟩;have h1':g (.agg cs::ts)=some (.bX (.agg (sy.enc y.1)::Sh.iS (s::ss) y.2)):=h1;have hl:decide ((sy.enc y.1).length=cs.length)=true:=by rw[Sy.dA];exact hw
        simp only[lC,hc,hE,ADB,hargs,hij,hσ,hcs,hts,h1',hl,VD]
       ·exact h.elim
      ·exact h.elim
     ·exact h.elim
    ·exact h.elim
   ·exact h.elim
  ·rename_i vt g hE;unfold BG5 at h;split at h
   ·rename_i ins rows kk σ1 hin;split at h
    ·rename_i v vs s ss hv hs;obtain ⟨y,h1,h2⟩:=h;split at h2
     ·rename_i hl;refine ⟨_,_,_,?_,h2⟩;have h1':g ins=some (.bX (Sh.iS (v::(vs++s::ss)) y)):=by
       rw[h1];cases vs<;>rfl
      simp only[lC,hc,hE,AC9,hin,h1',hl]
     ·exact h2.elim
    ·exact h.elim
   ·exact h.elim
  ·rename_i g hE;unfold BHL at h;split at h
   ·rename_i k cs ts σ1 hin;split at h
    ·rename_i sy s ss hsy hs;split at h
     ·rename_i hw;obtain ⟨y,h1,h2⟩:=h;refine ⟨_,_,_,?_,h2⟩;have h1':g (.agg cs::ts)=some (.bX (.agg (sy.enc y.1)::Sh.iS (s::ss) y.2)):=h1;have hl:Nat.beq (sy.enc y.1).length cs.length=true:=by rw[Sy.dA];exact hw
      simp only[lC,hc,hE,ADC,hin,h1',hl,VD]
     ·exact h.elim
    ·exact h.elim
   ·exact h.elim
  ·rename_i g hE;unfold BG9 at h;split at h
   ·rename_i ps σ1 hin;split at h
    ·rename_i ts s hts hs;obtain ⟨y,h1,h2⟩:=h;refine ⟨_,_,_,?_,h2⟩;simp only[lC,hc,hE,ADA,hin,hts,h1,Option.map_some]
    ·exact h.elim
   ·exact h.elim
  ·rename_i c g hE;unfold BHH at h;split at h
   ·rename_i sy ts hsh hts;split at h
    ·rename_i z hz;obtain ⟨y,hg,h⟩:=h;split at h
     ·rename_i fl rows hcc;obtain ⟨h1,h2⟩:=h;refine ⟨_,_,_,?_,h2⟩;rw[ac] at h1;have hg':g ts=some (.agg (sy.enc y)):=hg;cases rows with
      | nil=>cases h1.1
      | cons r rows =>
       have hr:r.length=z:=by
        simp_all
       subst hr;simp only[lC,hc,hE,hts,hg',hcc]
     ·exact h.elim
    ·exact h.elim
   ·exact h.elim
  ·split at h
   ·rename_i g r ts hE hr hts;obtain ⟨l,h1,h2⟩:=h;rw[rA] at h2;cases l with
    | nil =>
     refine ⟨_,_,_,?_,h2.1 rfl⟩;simp only[lC,hc,hE,hts,h1];rfl
    | cons x l =>
     refine ⟨_,_,_,?_,h2.2 rfl⟩;simp only[lC,hc,hE,hts,h1,List.map_cons,Sy.dA]
   ·rename_i g r ts hE hr hts;obtain ⟨l,h1,h2⟩:=h;rw[rA] at h2;have hm:(a++args++b).mapM (iG σ 4)=some ts:=by rw[gR hts];exact PO σ 4 ts
    cases l with
    | nil =>
     refine ⟨_,_,_,?_,h2.1 rfl⟩;simp only[lC,hc,hE,hm,h1];rfl
    | cons x l =>
     obtain ⟨h3,h4⟩:=h2.2 rfl;refine ⟨_,_,_,?_,h4⟩;rw[List.map_cons] at h3;simp only[lC,hc,hE,hm,h1,List.map_cons,Sy.dA,h3]
   ·exact h.elim
 ·exact h.elim
def AJY {n:Nat} {t:TypeId} {d s:D} (h:A29 nL P σ n t d s K):∃ d' σ' n',one n (TP P σ t d s)=some (d',σ',n')/\K d' σ' n':=by
 unfold A29 at h;split at h
 case h_2=>exact h.elim
 rename_i e he;split at h
 case h_2=>exact h.elim
 rename_i z xs k hz hx;split at h
 case h_2=>exact h.elim
 rename_i ro z' rs hσ;split at h
 case h_2=>exact h.elim
 rename_i hzz;obtain ⟨hb,hk⟩:=h;simp only[ac,ae] at hb;refine ⟨_,_,_,?_,hk⟩;simp only[one,TP,he,hz,hx,hσ];rw[if_pos ⟨of_decide_eq_true hzz,hb.1.1,hb.1.2,hb.2⟩];rfl
def A7G {s:Nat->D} {n:Nat} {op:Op} (h:nvS nL P E σ s n op K):∃ d σ' n',nv P E σ s n op=some (d,σ',n')/\K d σ' n':=by
 unfold nvS at h;split at h
 ·exact AGR h
 ·exact ALU h
 ·exact U0 h
 ·exact U0 h
 ·exact ALY h
 ·split at h
  ·rename_i x y t u hc ha hat;obtain ⟨d,σ',n',h1,h2⟩:=W9 h;refine ⟨d,σ',n',?_,h2⟩;simp only[nv,hc,ha,hat];exact h1
  ·rename_i x y t u hc ha hat;obtain ⟨d,σ',n',h1,h2⟩:=AJY h;refine ⟨d,σ',n',?_,h2⟩;simp only[nv,hc,ha,hat];exact h1
  ·rename_i f hc;obtain ⟨d,σ',n',h1,h2⟩:=AC7 h;refine ⟨d,σ',n',?_,h2⟩;simp only[nv,hc,AB9,h1]
  ·exact h.elim
 ·exact U7 h
end
def rK (σ:Nat->Option bE) (n:Nat) (σ':Nat->Option bE) (n':Nat):Prop:=n<=n'/\∀ k x,k<n->σ k=some x->gP x=false->σ' k=some x
def rK.refl (σ:Nat->Option bE) (n:Nat):rK σ n σ n:=⟨ak _,λ_ _ _ h _=>h⟩
variable {σ σ':Nat->Option bE}{n':Nat}
def rK.trans {σ'':Nat->Option bE} {n n'':Nat} (h:rK σ n σ' n') (h':rK σ' n' σ'' n''):rK σ n σ'' n'' :=
 ⟨Nat.le_trans h.1 h'.1,λk x hk hx hw=>h'.2 k x (Nat.lt_of_lt_of_le hk h.1) (h.2 k x hk hx hw) hw⟩
def rK.new {n:Nat} (x:Option bE) (h:n<=n'):rK σ n (b8 σ n x) n':=⟨h,λk y hk hy _=>by rw[bL _ _ (by omega)];exact hy⟩
def rK.same {n:Nat} (h:n<=n'):rK σ n σ n':=⟨h,λ_ _ _ h _=>h⟩
def rK.set {n m:Nat} {x₀:bE} (x:Option bE) (h:n<=n') (hm:σ m=some x₀) (hw:gP x₀=true):rK σ n (b8 σ m x) n':=⟨h,λk y hk hy hy'=>by
 by_cases e:k=m
 ·simp_all
 ·rw[bL _ _ e];exact hy⟩
def fH (E:Env):Prop:=∀ f g,E f≠some (.heap g)
section
variable {P : Program} {E : Env}
def fI {n:Nat} {x:Option (D×(Nat->Option bE))} {d:D} (h:one n x=some (d,σ',n')):x=some (d,σ')/\n'=n+1:=by
 unfold one at h;cases x with
 | none=>cases h
 | some y=>obtain ⟨a,b⟩:=y;simp only[Option.map_some,Option.some.injEq,Prod.mk.injEq] at h;obtain ⟨rfl,rfl,rfl⟩:=h;exact ⟨rfl,rfl⟩
def yL:∀ {ps ps':List (Nat×D)} {σ σ1:Nat->Option bE} {n n':Nat},n<=n'->CR σ ps=some (ps',σ1)->rK σ n σ1 n'
 | [],ps',σ,σ1,n,n',hn,h=>by
  cases h;exact .same hn
 | p::ps,ps',σ,σ1,n,n',hn,h=>by
  unfold CR at h;split at h
  ·simp_all
  ·rename_i i k r e;split at h
   ·rename_i z rows hk;simp only[aa,Prod.mk.injEq] at h;obtain ⟨⟨_,_⟩,hg,_,rfl⟩:=h;exact (rK.set (n':=n) none (ak _) hk rfl).trans (yL hn hg)
   ·cases h
  ·rename_i i d r _ e;simp only[aa,Prod.mk.injEq] at h;obtain ⟨⟨_,_⟩,hg,_,rfl⟩:=h;exact yL hn hg
def VG {k:Nat} {cs:List T}:∀ {ks:List Nat} {σ:Nat->Option bE} {rows:List (List T)},z6 σ ks=some rows->∃ rows',z6 (b8 σ k (some (.rows false [cs.map .p]))) ks=some rows'
 | [],σ,rows,_=>⟨[],rfl⟩
 | k'::ks,σ,rows,h=>by
  unfold z6 at h;split at h
  ·rename_i ds hσ;split at h
   ·rename_i row rs hds hrs;obtain ⟨rows',hr'⟩:=VG (k:=k) (cs:=cs) hrs;by_cases e:k'=k
    ·subst e;exact ⟨cs.map (T.canon 4)::rows',by simp only[z6,fS,N8,hr']⟩
    ·exact ⟨row.map (T.canon 4)::rows',by simp only[z6,bL _ _ e,hσ,hds,hr']⟩
   ·cases h
  ·cases h
def AQI:∀ {kk:List Nat} {σ:Nat->Option bE} {n:Nat} {ts:List T} {rows:List (List T)},z6 σ kk=some rows->rK σ n (A9R σ kk ts) n
 | [],σ,n,ts,rows,_=>.same (ak _)
 | k::ks,σ,n,ts,rows,h=>by
  unfold A9R;split
  ·rename_i k' ks' cs ts' e;cases e;unfold z6 at h;split at h
   ·rename_i ds hσ;split at h
    ·rename_i row rs hds hrs;have hrs':∃ rows',z6 (b8 σ k (some (.rows false [cs.map .p]))) ks=some rows':=VG hrs;obtain ⟨rows',hrs'⟩:=hrs';exact (rK.set (n':=n) _ (ak _) hσ rfl).trans (AQI hrs')
    ·cases h
   ·cases h
  ·exact .same (ak _)
variable {σ1:Nat->Option bE}
def ATC {f:FuncId} {args:List D} {n:Nat} {ins:List T} {rows:List (List T)} {kk:List Nat} (h:XF f args σ=some (ins,rows,kk,σ1)):rK σ n σ1 n/\z6 σ1 kk=some rows:=by
 unfold XF at h;split at h
 ·rename_i ps σ2 ks hg hp;split at h
  ·split at h
   ·rename_i rows' vals hr hs;obtain ⟨_,rfl,rfl,rfl⟩:=h;exact ⟨yL (ak _) hg,hr⟩
   ·cases h
  ·cases h
 ·cases h
def A8O {args:List D} {n k:Nat} {cs ts:List T} (h:AQA args σ=some (k,cs,ts,σ1)):rK σ n σ1 n/\∃ row,σ1 k=some (.rows false [row]):=by
 unfold AQA at h;split at h
 ·split at h
  ·rename_i ps σ2 hg;split at h
   ·rename_i ds ts' hσ hts;split at h
    ·obtain ⟨rfl,_,_,rfl⟩:=h;exact ⟨yL (ak _) hg,_,hσ⟩
    ·cases h
   ·cases h
  ·cases h
 ·cases h
def AXK {k:Nat} {rows:List (List T)} {x:bE} (h:gP x=false):AN4 k rows x=x:=by
 unfold AN4;split
 ·cases h
 ·rfl
def BF7 {n k:Nat} {z:Nat} {rows:List (List T)} (hk:σ k=some (.arr false z rows)):rK σ n (BMZ σ k rows) n:=⟨ak _,λj x hj hx hw=>by
 unfold BMZ;split
 ·rename_i e;have e:=Nat.eq_of_beq_eq_true e;subst e;rw[hk] at hx;cases hx;cases hw
 ·rw[hx,Option.map_some,AXK hw]⟩
def P2:∀ {ks:List Nat} {σ σ1:Nat->Option bE} {n:Nat} {args args':List D},UR σ ks args=some (args',σ1)->rK σ n σ1 n
 | [],σ,σ1,n,args,args',h=>by cases h;exact .same (ak _)
 | k::ks,σ,σ1,n,args,args',h=>by
  unfold UR at h;split at h
  ·rename_i hk;exact (BF7 hk).trans (P2 h)
  ·exact P2 h
  ·cases h
def A2Z (hh:fH E) {n:Nat} {c:D} {args:List D} {d:D} (h:lC E σ n c args=some (d,σ',n')):rK σ n σ' n':=by
 unfold lC at h;split at h
 ·split at h
  ·split at h
   ·split at h
    ·split at h
     ·cases h;exact .same (by omega)
     ·cases h;exact .new _ (by omega)
    ·cases h
   ·split at h
    ·split at h
     ·split at h
      ·cases h;exact .new _ (by omega)
      ·cases h
     ·cases h
    ·cases h
  ·split at h
   ·split at h
    ·cases h;exact .same (by omega)
    ·split at h
     ·cases h;exact .new _ (by omega)
     ·cases h
    ·cases h
   ·cases h
  ·rename_i hg;exact absurd hg (hh _ _)
  ·unfold xV at h;split at h
   ·split at h
    ·rename_i hσ;split at h
     ·simp only[aa,Prod.mk.injEq] at h;obtain ⟨_,_,_,rfl,rfl⟩:=h;exact .set _ (by omega) hσ rfl
     ·cases h
    ·cases h
   ·cases h
  ·unfold j5 at h;split at h
   ·split at h
    ·rename_i hσ;split at h
     ·simp only[aa,Prod.mk.injEq] at h;obtain ⟨_,_,_,rfl,rfl⟩:=h;exact (rK.set (n':=n) none (ak _) hσ rfl).trans (.new _ (by omega))
     ·cases h
    ·cases h
   ·cases h
  ·unfold DU at h;split at h
   ·split at h
    ·split at h
     ·obtain ⟨_,rfl,rfl⟩:=h;exact .new _ (by omega)
     ·cases h
    ·cases h
   ·split at h
    ·split at h
     ·obtain ⟨_,rfl,rfl⟩:=h;exact .new _ (by omega)
     ·cases h
    ·cases h
   ·cases h
  ·unfold KQ at h;split at h
   ·split at h
    ·obtain ⟨_,rfl,rfl⟩:=h;exact .new _ (by omega)
    ·cases h
   ·cases h
  ·unfold ADB at h;split at h
   ·split at h
    ·rename_i hσ;split at h
     ·split at h
      ·split at h
       ·obtain ⟨_,rfl,rfl⟩:=h;exact .set _ (by omega) hσ rfl
       ·cases h
      ·cases h
     ·cases h
    ·cases h
   ·cases h
  ·unfold AC9 at h;split at h
   ·rename_i ins rows kk σ1 hin;split at h
    ·split at h
     ·obtain ⟨_,rfl,rfl⟩:=h;obtain ⟨hg,hr⟩:=ATC (n:=n) hin;exact (hg.trans (AQI hr)).trans (.same (by omega))
     ·cases h
    ·cases h
   ·cases h
  ·unfold ADC at h;split at h
   ·rename_i k cs ts σ1 hin;split at h
    ·split at h
     ·obtain ⟨_,rfl,rfl⟩:=h;obtain ⟨hg,row,hr⟩:=A8O (n:=n) hin;exact hg.trans (.set _ (by omega) hr rfl)
     ·cases h
    ·cases h
   ·cases h
  ·unfold ADA at h;split at h
   ·rename_i ps σ1 hin;split at h
    ·simp only[aa,Prod.mk.injEq] at h;obtain ⟨_,_,_,rfl,rfl⟩:=h;exact (P2 (n:=n) hin).trans (.same (by omega))
    ·cases h
   ·cases h
  ·split at h
   ·split at h
    ·split at h
     ·obtain ⟨_,rfl,rfl⟩:=h;exact .new _ (by omega)
     ·cases h
    ·cases h
   ·cases h
  ·cases h
 ·cases h
def BPP (hh:fH E) {s:Nat->D} {n:Nat} {op:Op} {d:D} (h:nv P E σ s n op=some (d,σ',n')):rK σ n σ' n':=by
 unfold nv at h;split at h
 ·obtain ⟨h1,rfl⟩:=fI h;cases hz:tz? P _ with
  | none=>rw[hz] at h1;cases h1
  | some z =>
   rw[hz] at h1;simp only[Option.bind_some,aa,Prod.mk.injEq] at h1;obtain ⟨b,_,rfl,rfl⟩:=h1;exact .new _ (by omega)
 ·obtain ⟨h1,rfl⟩:=fI h;simp only[aa,Prod.mk.injEq] at h1;obtain ⟨b,_,rfl,rfl⟩:=h1;exact .new _ (by omega)
 ·obtain ⟨h1,rfl⟩:=fI h;simp only[aa,Prod.mk.injEq] at h1;obtain ⟨σ₂,h2,rfl,rfl⟩:=h1;unfold kZ at h2;split at h2
  ·split at h2
   ·rename_i hσ hz;split at h2
    ·split at h2
     ·cases h2;exact .set _ (by omega) hσ rfl
     ·cases h2
    ·cases h2
   ·rename_i hσ hz;split at h2
    ·split at h2
     ·cases h2;exact .set _ (by omega) hσ rfl
     ·cases h2
    ·cases h2
   ·cases h2
  ·cases h2
 ·split at h
  ·rename_i r hr;obtain ⟨h1,rfl⟩:=fI h;cases h1;unfold APP at hr;split at hr
   ·split at hr
    ·cases hr;exact .new _ (by omega)
    ·cases hr
   ·cases hr;exact .new _ (by omega)
   ·cases hr;exact .new _ (by omega)
   ·cases hr
  ·obtain ⟨h1,rfl⟩:=fI h;unfold AMM at h1;split at h1
   ·cases h1;exact .new _ (by omega)
   ·cases h1
 ·split at h
  ·obtain ⟨h1,rfl⟩:=fI h;cases h1;exact .new _ (by omega)
  ·split at h
   ·obtain ⟨h1,rfl⟩:=fI h;cases h1;exact .new _ (by omega)
   ·cases h
 ·obtain ⟨h1,rfl⟩:=fI h;unfold UX at h1;split at h1
  ·split at h1
   ·split at h1
    ·cases h1;exact .new _ (by omega)
    ·cases h1
   ·cases h1
  ·cases h1
 ·split at h
  ·rename_i hgv;split at h
   ·obtain ⟨h1,rfl⟩:=fI h;cases h1;exact (yL (ak _) hgv).trans (.new _ (by omega))
   ·cases h
  ·cases h
 ·obtain ⟨h1,rfl⟩:=fI h;simp only[aa,Prod.mk.injEq] at h1;obtain ⟨σ₂,h2,rfl,rfl⟩:=h1;unfold AFL at h2;split at h2
  ·split at h2
   ·split at h2
    ·rename_i hσ;split at h2
     ·cases h2;exact .set _ (by omega) hσ rfl
     ·cases h2
    ·cases h2
   ·cases h2
  ·cases h2
 ·obtain ⟨h1,rfl⟩:=fI h;simp only[aa,Prod.mk.injEq] at h1;obtain ⟨σ₂,h2,rfl,rfl⟩:=h1;unfold AFL at h2;split at h2
  ·split at h2
   ·split at h2
    ·rename_i hσ;split at h2
     ·cases h2;exact .set _ (by omega) hσ rfl
     ·cases h2
    ·cases h2
   ·cases h2
  ·cases h2
 ·obtain ⟨h1,rfl⟩:=fI h;unfold APM at h1;split at h1
  ·split at h1
   ·split at h1
    ·rename_i hσ;split at h1
     ·cases h1;exact .set _ (by omega) hσ rfl
     ·cases h1;exact .set _ (by omega) hσ rfl
     ·cases h1
    ·cases h1
   ·cases h1
  ·cases h1
 ·obtain ⟨h1,rfl⟩:=fI h;simp only[aa,Prod.mk.injEq] at h1;obtain ⟨σ₂,h2,rfl,rfl⟩:=h1;unfold APQ at h2;split at h2
  ·split at h2
   ·rename_i hσ;split at h2
    ·cases h2;exact .set _ (by omega) hσ rfl
    ·cases h2
   ·cases h2
  ·cases h2
 ·obtain ⟨h1,rfl⟩:=fI h;simp only[aa,Prod.mk.injEq] at h1;obtain ⟨_,_,_,rfl⟩:=h1;exact .same (by omega)
 ·obtain ⟨h1,rfl⟩:=fI h;unfold U2 at h1;split at h1
  ·split at h1
   ·rename_i hσ;split at h1
    ·cases h1;exact .set _ (by omega) hσ rfl
    ·cases h1;exact .same (by omega)
   ·cases h1
  ·cases h1
 ·split at h
  ·obtain ⟨h1,rfl⟩:=fI h;unfold iX at h1;split at h1
   ·split at h1
    ·split at h1
     ·split at h1
      ·split at h1
       ·split at h1
        ·split at h1
         ·cases h1;exact .new _ (by omega)
         ·cases h1
        ·split at h1
         ·cases h1;exact .same (by omega)
         ·split at h1
          ·cases h1;exact .new _ (by omega)
          ·cases h1
        ·cases h1
       ·split at h1
        ·rename_i hσ;split at h1
         ·cases h1;exact (rK.set (n':=n) none (ak _) hσ rfl).trans (.new _ (by omega))
         ·cases h1
        ·cases h1
       ·cases h1
      ·cases h1
     ·cases h1
    ·cases h1
   ·unfold vH at h1;split at h1
    ·split at h1
     ·split at h1
      ·split at h1
       ·split at h1
        ·rename_i hσ;split at h1
         ·cases h1;exact (rK.set (n':=n) none (ak _) hσ rfl).trans (.new _ (by omega))
         ·cases h1
        ·cases h1
       ·split at h1
        ·split at h1
         ·cases h1;exact .same (by omega)
         ·split at h1
          ·cases h1;exact .same (by omega)
          ·cases h1
        ·cases h1
       ·cases h1
      ·cases h1
     ·cases h1
    ·cases h1
  ·unfold AB9 at h;split at h
   ·rename_i r hcf;cases h;exact A2Z hh hcf
   ·simp only[aa,Prod.mk.injEq] at h;obtain ⟨_,_,_,rfl,rfl⟩:=h;exact .same (ak _)
  ·obtain ⟨h1,rfl⟩:=fI h;unfold TP at h1;split at h1
   case h_2=>cases h1
   split at h1
   case h_2=>cases h1
   split at h1
   case h_2=>cases h1
   rename_i hσ;split at h1
   ·cases h1;exact .set _ (by omega) hσ rfl
   ·cases h1
  ·cases h
 ·cases h
end
section
variable (C : Combs) (P : Program) (E : Env) (nt : Nat)
def splitK (ops:Array Oper) (o:Oper) (st:St) (K:St->Prop):Prop:=match o.guard with
 | none=>K st
 | some (j,_)=>match (ops[j]?).bind (·.dst) with
  | none=>K st
  | some t=>match st.s t with
   | .p (.v (.bool b))=>aD b (K ⟨b8 st.s t (.p (.v (.bool true))),st.σ,st.n⟩) (K ⟨b8 st.s t (.p (.v (.bool false))),st.σ,st.n⟩)
   | _=>K st
def I9 (st:St) (dst:Option Tmp) (d:D) (σ':Nat->Option bE) (n':Nat) (K:St->Prop):Prop:=match rN nt st dst d σ' n' with
 | some st'=>K st'
 | none=>C.bad 201
def CX (ops:Array Oper) (o:Oper) (st:St) (K:St->Prop):Prop :=
 match gI ops st.s o with
 | some true=>match eF E o.op with
  | true=>qvS C P E st.n st.σ st.s (cD true st.s) o.op λd=>I9 C nt st o.dst d st.σ st.n K
  | false=>nvS C P E st.σ (cD true st.s) st.n o.op λd σ' n'=>I9 C nt st o.dst d σ' n' K
 | some false=>I9 C nt st o.dst (.p (.v undef)) st.σ st.n K
 | none=>C.bad 202
end
def BQK (A:Nat->Bool) (st st':St):Prop:=∀ i,A i=false->st'.s i=st.s i
structure Fr (A:Nat->Bool) (st st':St):Prop where
 s:BQK A st st'
 b:rK st.σ st.n st'.σ st'.n
def Fr.refl (A:Nat->Bool) (st:St):Fr A st st:=⟨λ_ _=>rfl,rK.refl _ _⟩
variable {A:Nat->Bool}{st st':St}
def Fr.trans {st'':St} (h:Fr A st st') (h':Fr A st' st''):Fr A st st'':=⟨λi hi=>(h'.s i hi).trans (h.s i hi),h.b.trans h'.b⟩
def Fr.mono {B:Nat->Bool} (h:Fr A st st') (hab:∀ i,B i=false->A i=false):Fr B st st':=⟨λi hi=>h.s i (hab i hi),h.b⟩
section
variable {P : Program} {E : Env} {nt : Nat} {ops : Array Oper}
def sR {o:Oper} {K:St->Prop} (h:splitK ops o st K):K st:=by
 unfold splitK at h;split at h
 ·exact h
 ·split at h
  ·exact h
  ·rename_i t ht;split at h
   ·rename_i b hb;have key:∀ c,b=c->(⟨b8 st.s t (.p (.v (.bool c))),st.σ,st.n⟩:St)=st:=by
     intro c hc;subst hc;have:b8 st.s t (.p (.v (.bool b)))=st.s:=by
      funext i
      by_cases e:i=t
      ·simp_all
      ·rw[bL _ _ e]
     rw[this]
    cases b with
    | true=>rw[<-key true rfl];exact h
    | false=>rw[<-key false rfl];exact h
   ·exact h
variable {dst:Option Tmp}
def iN {d:D} {K:St->Prop} (h:I9 nL nt st dst d σ' n' K):∃ st',rN nt st dst d σ' n'=some st'/\K st':=by
 unfold I9 at h;split at h
 ·simp_all
 ·exact h.elim
def jC {o:Oper} {K:St->Prop} (h:CX nL P E nt ops o st K):∃ st',fD P E nt ops o st=some st'/\K st':=by
 unfold CX at h;unfold fD;split at h
 ·rename_i hg;split at h
  ·rename_i hq;obtain ⟨d,h1,h2⟩:=A8J h;obtain ⟨st',h3,h4⟩:=iN h2;exact ⟨st',by simp only[hq,if_true,gY,hg,h1,h3],h4⟩
  ·obtain ⟨d,σ',n',h1,h2⟩:=A7G h;obtain ⟨st',h3,h4⟩:=iN h2;simp_all
 ·rename_i hg;obtain ⟨st',h3,h4⟩:=iN h;refine ⟨st',?_,h4⟩;by_cases hq:eF E o.op=true
  ·simp only[hq,if_true,gY,hg,h3]
  ·simp_all
 ·exact h.elim
def oF {d:D} (h:rN nt st dst d σ' n'=some st') (hA:∀ t,dst=some t->A t=true) (hf:rK st.σ st.n σ' n'):Fr A st st':=by
 obtain ⟨_,rfl⟩:=sK h;refine ⟨λi hi=>?_,hf⟩;cases dst with
 | none=>rfl
 | some t=>exact bL _ _ λe=>by subst e;rw[hA _ rfl] at hi;cases hi
def lK (hh:fH E) {o:Oper} (h:fD P E nt ops o st=some st') (hA:∀ t,o.dst=some t->A t=true):Fr A st st':=by
 unfold fD at h;split at h
 ·split at h
  ·exact oF h hA (rK.refl _ _)
  ·cases h
 ·split at h
  ·split at h
   ·rename_i d σ' n' hn;exact oF h hA (BPP hh hn)
   ·cases h
  ·exact oF h hA (rK.refl _ _)
  ·cases h
end
end Go.Pv
