/-
  The symbolic executor, part c: operations that write or make memory; a whole region.
-/
import Derived.Test.YtipdohmdckdoeaaGreatDoorVfkb
set_option linter.defProp false
set_option linter.unusedSimpArgs false
namespace Go.Pv
open Go Go.RowKit
abbrev KN:=D->(Nat->Option bE)->Nat->Prop
section
variable (C : Combs) (P : Program) (E : Env)
def BCP (c:Nat) (x:Option (D×(Nat->Option bE)×Nat)) (K:KN):Prop:=match x with
 | some (d,σ',n')=>K d σ' n'
 | none=>C.bad c
def AK3 (σ:Nat->Option bE) (n:Nat) (t:TypeId) (a v:D) (K:KN):Prop :=
 match a with
 | .ptr k i j=>match σ k with
  | some (.arr ro za rows)=>match ro,tsz? P t,nL v.cells with
   | false,some z,some ts=>match decide (0<z)&&ts.length == z&&ts.all T.leaf with
    | true=>C.row rows i λr=>C.yJ (decide (j+z<=r.length)) (K (.p (.v undef)) (cC σ k (some (.arr false za (rows.set i (bU r j ts))))) (n+1))
    | false=>C.bad 101
   | _,_,_=>C.bad 102
  | _=>BCP C 103 (one n ((j4 P σ t a v).map λσ'=>(.p (.v undef),σ'))) K
 | _=>C.bad 104
def BOG (a b:List (List T)):List (List T):=a++b
def MT (σ:Nat->Option bE) (n:Nat) (u e:TypeId) (s x:D) (K:KN):Prop :=
 match P.underlying u,x with
 | some .string,.p (.v (.string b))=>match tsz? P e,tby? P e,tz? P e,s with
  | some z,some by_,some zv,.own k₀=>match decide (z=1)&&zv.cells.size == 1&&zv.cells.all Value.oneCell',σ k₀ with
   | true,some (.arr false z' rs)=>C.yJ (decide (z'=1)&&decide ((rs.length+b.size)*by_<=140737488355328)&&decide (rs.length+b.size<=140737488355328)) (K (.own n) (cC (cC σ k₀ none) n (some (.arr false 1 (rs++dO b)))) (n+1))
   | _,_=>C.bad 118
  | _,_,_,_=>C.bad 119
 | _,_=>C.bad 117
def UX (σ:Nat->Option bE) (n:Nat) (t u:TypeId) (s x:D) (K:KN):Prop :=
 match decide (t=u),lI P t with
 | true,some e =>
  match tsz? P e,tby? P e,tz? P e,HZ σ x with
  | some z,some by_,some zv,some xs =>
   match decide (0<z)&&zv.cells.size == z&&zv.cells.all Value.oneCell' with
   | true=>match s with
    | .p st=>match fK st with
     | some (full,[])=>C.yJ (iB z xs&&full&&decide (xs.length*by_<=140737488355328)&&decide (xs.length<=140737488355328)) (K (.own n) (cC σ n (some (.arr false z xs))) (n+1))
     | some (full,r::rows)=>aD xs.isEmpty (K (.p st) σ (n+1)) (C.yJ (full&&iB z (r::rows)&&iB z xs&&decide (((r::rows).length+xs.length)*by_<=140737488355328)&&decide ((r::rows).length+xs.length<=140737488355328)) (K (.own n) (cC σ n (some (.arr false z (BOG (r::rows) xs)))) (n+1)))
     | none=>C.bad 111
    | .own k₀=>match σ k₀ with
     | some (.arr ro z' rs)=>match ro with
      | false=>C.yJ (decide (z'=z)&&iB z xs&&decide ((rs.length+xs.length)*by_<=140737488355328)&&decide (rs.length+xs.length<=140737488355328)) (K (.own n) (cC (cC σ k₀ none) n (some (.arr false z (rs++xs)))) (n+1))
      | true=>C.bad 112
     | _=>C.bad 113
    | _=>C.bad 114
   | false=>C.bad 115
  | _,_,_,_=>C.bad 116
 | false,some e=>MT C P σ n u e s x K
 | _,_=>C.bad 117
def A3X (σ:Nat->Option bE) (n:Nat) (t:TypeId) (len cap:D) (K:KN):Prop :=
 match lI P t with
 | some e =>
  match tsz? P e,tby? P e,tz? P e,len,cap with
  | some z,some by_,some zv,.p (.v (.int _ a)),.p (.v (.int _ b)) =>
   match decide (0<z)&&zv.cells.size == z&&zv.cells.all Value.oneCell' with
   | true=>C.yJ ((decide (a=b)||decide (a=0))&&decide (0<=b)&&decide (b*by_<=140737488355328)&&decide (b<=140737488355328)) (K (.own n) (cC σ n (some (.arr false z (List.replicate a.toNat (zv.cells.toList.map .v))))) (n+1))
   | false=>C.bad 121
  | _,_,_,_,_=>C.bad 122
 | none=>C.bad 123
def BBO (σ:Nat->Option bE) (n:Nat) (t:TypeId) (x i v:D) (K:KN):Prop :=
 match P.underlying t with
 | some (.map kt _) =>
  match vL P kt,i,x with
  | some kd,.p (.v k),.map m =>
   match CM kd k,σ m with
   | true,some (.map ro es)=>match ro with
    | false=>C.opt _ (findD kd k es 0) λr=>K (.p (.v undef)) (cC σ m (some (.map false (e7 es r k v)))) (n+1)
    | true=>C.bad 131
   | _,_=>C.bad 132
  | _,_,_=>C.bad 133
 | _=>C.bad 134
def A4B (σ:Nat->Option bE) (n:Nat) (isString:Bool) (d:D) (K:KN):Prop :=
 match isString,d with
 | true,.it k=>match σ k with
  | some (.lC s pos)=>aD (decide (pos<s.size)) (K (.p (.v (.tuple #[.bool true,.int .i64 pos,.int .i32 (Utf8.decode s pos).1]))) (cC σ k (some (.lC s (pos+(Utf8.decode s pos).2)))) (n+1)) (K (.p (.v (.tuple #[.bool false]))) σ (n+1))
  | _=>C.bad 141
 | _,_=>C.bad 142
def A0B (fid:FuncId):Option Sy:=match P.funcs[fid]? with
 | some fn=>match fn.resultTypes.toList with
  | [t]=>match lI P t with
   | some e=>AD9 P e
   | none=>none
  | _=>none
 | none=>none
def BEH (z:Nat) (g:List (List T)->Option (List (List T))) (σ:Nat->Option bE) (n:Nat) (args:List D) (K:KN):Prop :=
 match args with
 | [.own k]=>match σ k with
  | some (.arr ro z' rows)=>match ro,decide (z'=z) with
   | false,true=>C.opt (List (List T)) (g rows) λrows'=>K (.p (.v (.tuple #[]))) (cC σ k (some (.arr false z rows'))) (n+1)
   | _,_=>C.bad 155
  | _=>C.bad 156
 | _=>C.bad 157
def BD8 (z:Nat) (g:List (List T)->List T->Option (List (List T))) (o:Option Sy) (σ:Nat->Option bE) (n:Nat) (args:List D) (K:KN):Prop :=
 match o,args with
 | some r,.own k::rest=>match σ k,nL rest with
  | some (.arr ro z' rows),some ts=>match ro,decide (z'=z)&&decide (r.w=z) with
   | false,true=>C.fresh r (g rows ts) λl=>K (.own n) (cC (cC σ k none) n (some (.arr false r.w (l.map r.enc)))) (n+1)
   | _,_=>C.bad 165
  | _,_=>C.bad 166
 | _,_=>C.bad 167
def BMP (z y:Nat) (σ:Nat->Option bE) (n:Nat) (args:List D) (K:KN):Prop :=
 match args with
 | [.own k]=>match σ k with
  | some (.arr _ z' rows)=>match decide (z'=z) with
   | true=>C.yJ (decide (rows.length*y<=140737488355328)&&decide (rows.length<=140737488355328)) (K (.own n) (cC σ n (some (.arr false z rows))) (n+1))
   | false=>C.bad 168
  | _=>C.bad 169
 | [.p t]=>match fK t with
  | some (_,rows)=>C.yJ ((rows.all λr=>decide (r.length=z))&&decide (rows.length*y<=140737488355328)&&decide (rows.length<=140737488355328)) (K (.own n) (cC σ n (some (.arr false z rows))) (n+1))
  | none=>C.bad 170
 | _=>C.bad 171
def A6R (z y:Nat) (σ:Nat->Option bE) (n:Nat) (args:List D) (K:KN):Prop :=
 match args with
 | [.p (.v (.slice none 0 0)),.p (.v (.int .i64 m))]=>C.yJ (decide (0<=m)&&decide (m.toNat*y<=140737488355328)&&decide (m.toNat<=140737488355328)) (K (.own n) (cC σ n (some (.arr false z []))) (n+1))
 | _=>C.bad 172
def A3Q:Sy->Nat->Option Nat
 | .pr a b,c=>match Nat.blt c a.w with
  | true=>A3Q a c
  | false=>A3Q b (c-a.w)
 | .li r,0=>some r.w
 | _,_=>none
def BEG (c:Nat) (g:List T->Option T) (fid:FuncId) (σ:Nat->Option bE) (n:Nat) (args:List D) (K:KN):Prop :=
 match A5U P fid,nL args with
 | some [(true,sy)],some ts=>match A3Q sy c with
  | some z=>C.call [(true,sy)] (g ts) λy=>match (sy.enc y)[c]? with
   | some (.sl _ rows)=>C.yJ (!rows.isEmpty&&iB z rows) (K (.agg (((sy.enc y).map D.p).set c (.own n))) (cC σ n (some (.arr false z rows))) (n+1))
   | _=>C.bad 175
  | none=>C.bad 176
 | _,_=>C.bad 177
def BNQ (fid:FuncId):Option Sy:=match P.funcs[fid]? with
 | some fn=>match fn.params.toList with
  | t::_=>match P.underlying t with
   | some (.pointer e)=>AD9 P e
   | _=>none
  | []=>none
 | none=>none
def ATT (s:Bool×Sy) (ss:Sh) (y:Sh.den (s::ss)):ATS (Sh.l6 (s::ss) y)=Sh.enc (s::ss) y:=by
 cases ss with
 | nil=>rfl
 | cons a l=>cases l<;>rfl
def BEA (g:List T->Option T) (fid:FuncId) (σ:Nat->Option bE) (n:Nat) (args:List D) (K:KN):Prop :=
 match args with
 | .ptr k i j::rest=>match decide (i=0)&&decide (j=0),σ k with
  | true,some (.rows ro [ds])=>match ro,nL ds,nL rest with
   | false,some cs,some ts=>match BNQ P fid,A5U P fid with
    | some sy,some (s::ss)=>match decide (sy.w=cs.length) with
     | true=>C.call ((true,sy)::s::ss) (g (.agg cs::ts)) λy=>K (.p (Sh.enc (s::ss) y.2)) (cC σ k (some (.rows false [(sy.enc y.1).map .p]))) (n+1)
     | false=>C.bad 181
    | _,_=>C.bad 182
   | _,_,_=>C.bad 183
  | _,_=>C.bad 184
 | _=>C.bad 185
def AHW (σ:Nat->Option bE) (n:Nat) (f:D) (args:List D) (K:KN):Prop :=
 match j5 f with
 | some (fid,a,b)=>match E fid with
  | some (.perm z g)=>BEH C z g σ n (a++args++b) K
  | some (.grow z g)=>BD8 C z g (A0B P fid) σ n (a++args++b) K
  | some (.dup z y)=>BMP C z y σ n (a++args++b) K
  | some (.room z y)=>A6R C z y σ n (a++args++b) K
  | some (.ASG g)=>BEA C P g fid σ n (a++args++b) K
  | some (.part c g)=>BEG C P c g fid σ n (a++args++b) K
  | _=>match E fid,A0B P fid,nL (a++args++b) with
   | some (.fresh g),some r,some ts=>C.fresh r (g ts) λl=>aD l.isEmpty (K (.p (.sl false [])) σ (n+1)) (K (.own n) (cC σ n (some (.arr false r.w (l.map r.enc)))) (n+1))
   | some (.N4 g),some r,some ts=>C.fresh r (g ts) λl=>aD l.isEmpty (K (.p (.sl true [])) σ (n+1)) (C.yJ ((l.map r.enc).all λx=>x.all T.flat) (K (.own n) (cC σ n (some (.arr false r.w (l.map r.enc)))) (n+1)))
   | _,_,_=>C.bad 151
 | none=>C.bad 152
def AZY (σ:Nat->Option bE) (n:Nat) (t:TypeId) (d s:D) (K:KN):Prop :=
 match lI P t with
 | some e=>match tsz? P e,HZ σ s,d with
  | some z,some xs,.own k=>match σ k with
   | some (.arr ro z' rs)=>match ro,decide (z'=z) with
    | false,true=>C.yJ (decide (xs.length=rs.length)&&decide (0<xs.length)&&iB z xs) (K (.p (.v (.int .i64 (xs.length:Int)))) (cC σ k (some (.arr false z xs))) (n+1))
    | _,_=>C.bad 163
   | _=>C.bad 164
  | _,_,_=>C.bad 173
 | none=>C.bad 174
def nvS (σ:Nat->Option bE) (s:Nat->D) (n:Nat) (op:Op) (K:KN):Prop :=
 match op with
 | .store t a v=>AK3 C P σ n t (ev s a) (ev s v) K
 | .makeSlice t l c=>A3X C P σ n t (ev s l) (ev s c) K
 | .mapUpdate t m i v=>BBO C P σ n t (ev s m) (ev s i) (ev s v) K
 | .insert t m i v=>BBO C P σ n t (ev s m) (ev s i) (ev s v) K
 | .next it isString=>A4B C σ n isString (ev s it) K
 | .call c =>
  match c.callee,c.args.toList,c.argTypes.toList with
  | .builtin .append,[x,y],[t,u]=>UX C P σ n t u (ev s x) (ev s y) K
  | .builtin .copy,[x,y],[t,_]=>AZY C P σ n t (ev s x) (ev s y) K
  | .value f,as,_=>AHW C P E σ n (ev s f) (as.map (ev s)) K
  | _,_,_=>C.bad 161
 | op=>BCP C 162 (nv P E σ s n op) K
end
section
variable {P : Program} {E : Env}
variable {K:KN}
def TE {c:Nat} {x:Option (D×(Nat->Option bE)×Nat)} (h:BCP nN c x K):∃ d σ' n',x=some (d,σ',n')/\K d σ' n':=by
 unfold BCP at h;split at h
 ·exact ⟨_,_,_,rfl,h⟩
 ·exact h.elim
variable {σ:Nat->Option bE}
def AD8 {n:Nat} {t:TypeId} {a v:D} (h:AK3 nN P σ n t a v K):∃ d σ' n',one n ((j4 P σ t a v).map λσ'=>(D.p (.v undef),σ'))=some (d,σ',n')/\K d σ' n':=by
 unfold AK3 at h;split at h
 ·rename_i k i j;split at h
  ·rename_i ro za rows hσ;split at h
   ·rename_i z ts hz hts;split at h
    ·rename_i hc;simp only[ac,ah,beq_iff_eq] at hc;obtain ⟨r,hr,hb,hk⟩:=h;have hb:j+z<=r.length:=of_decide_eq_true hb;refine ⟨_,_,_,?_,hk⟩;simp only[one,j4,hσ,hz,hr,hts];rw[if_pos ⟨hc.1.1,hc.1.2,hb,hc.2⟩];rfl
    ·exact h.elim
   ·exact h.elim
  ·exact TE h
 ·exact h.elim
def QP {n:Nat} {t u e:TypeId} {s x:D} (he:lI P t=some e) (h:MT nN P σ n u e s x K):∃ d σ' n',one n (u6 P σ n t u s x)=some (d,σ',n')/\K d σ' n':=by
 unfold MT at h;split at h
 ·rename_i b hu;split at h
  ·rename_i z by_ zv k₀ hz hby hzv;split at h
   ·rename_i z' rs hc hσ;simp only[ac,ah,beq_iff_eq] at hc;obtain ⟨hb,hk⟩:=h;simp only[ac,ah] at hb;refine ⟨_,_,_,?_,hk⟩;simp only[one,u6,he,hu,hz,hby,hzv];rw[if_pos ⟨hc.1.1,hc.1.2,hc.2⟩];simp only[hσ];rw[if_pos ⟨hb.1.1,hb.1.2,hb.2⟩];rfl
   ·exact h.elim
  ·exact h.elim
 ·exact h.elim
def UY {n:Nat} {t u:TypeId} {s x:D} (h:UX nN P σ n t u s x K):∃ d σ' n',one n (jH P σ n t u s x)=some (d,σ',n')/\K d σ' n':=by
 unfold UX at h;split at h
 ·rename_i e htu he;have htu:t=u:=of_decide_eq_true htu;split at h
  ·rename_i z by_ zv xs hz hby hzv hxs;split at h
   ·rename_i hc;simp only[ac,ah,beq_iff_eq] at hc;split at h
    ·rename_i st;split at h
     ·rename_i full hrow;obtain ⟨hb,hk⟩:=h;simp only[ac,ah] at hb;refine ⟨_,_,_,?_,hk⟩;simp only[one,jH,if_pos htu,he,hz,hby,hzv,hxs];rw[if_pos ⟨hc.1.1,hc.1.2,hc.2,hb.1.1.1⟩];simp only[hrow];rw[if_pos ⟨hb.1.1.2,hb.1.2,hb.2⟩];rfl
     ·rename_i full r rows hrow;rw[rB] at h;cases xs with
      | nil =>
       refine ⟨_,_,_,?_,h.1 rfl⟩;simp only[one,jH,if_pos htu,he,hz,hby,hzv,hxs];rw[if_pos ⟨hc.1.1,hc.1.2,hc.2,rfl⟩];simp only[hrow];rfl
      | cons x0 xs =>
       obtain ⟨hb,hk⟩:=h.2 rfl;simp only[ac,ah] at hb;refine ⟨_,_,_,?_,hk⟩;simp only[one,jH,if_pos htu,he,hz,hby,hzv,hxs];rw[if_pos ⟨hc.1.1,hc.1.2,hc.2,hb.1.1.2⟩];simp only[hrow];rw[if_pos ⟨hb.1.1.1.1,hb.1.1.1.2,hb.1.2,hb.2⟩];rfl
     ·exact h.elim
    ·rename_i k₀;split at h
     ·rename_i ro z' rs hσ;split at h
      ·obtain ⟨hb,hk⟩:=h;simp only[ac,ah] at hb;refine ⟨_,_,_,?_,hk⟩;simp only[one,jH,if_pos htu,he,hz,hby,hzv,hxs];rw[if_pos ⟨hc.1.1,hc.1.2,hc.2,hb.1.1.2⟩];simp only[hσ];rw[if_pos ⟨hb.1.1.1,hb.1.2,hb.2⟩];rfl
      ·exact h.elim
     ·exact h.elim
    ·exact h.elim
   ·exact h.elim
  ·exact h.elim
 ·rename_i e htu he;obtain ⟨d,σ',n',h1,h2⟩:=QP (t:=t) he h;refine ⟨d,σ',n',?_,h2⟩;unfold jH;rw[if_neg (of_decide_eq_false htu)];exact h1
 ·exact h.elim
def AIX {n:Nat} {t:TypeId} {a b:D} (h:A3X nN P σ n t a b K):∃ d σ' n',one n (S1 P σ n t a b)=some (d,σ',n')/\K d σ' n':=by
 unfold A3X at h;split at h
 ·rename_i e he;split at h
  ·rename_i z by_ zv k1 x k2 y hz hby hzv;split at h
   ·rename_i hc;simp only[ac,ah,beq_iff_eq] at hc;obtain ⟨hb,hk⟩:=h;simp only[ac,Bool.or_eq_true,ah] at hb;refine ⟨_,_,_,?_,hk⟩;simp only[one,S1,he,hz,hby,hzv];rw[if_pos ⟨hb.1.1.1,hb.1.1.2,hb.1.2,hb.2,hc.1.1,hc.1.2,hc.2⟩];rfl
   ·exact h.elim
  ·exact h.elim
 ·exact h.elim
def S4 {n:Nat} {t:TypeId} {x i v:D} (h:BBO nN P σ n t x i v K):∃ d σ' n',one n ((AC5 P σ t x i v).map λσ'=>(D.p (.v undef),σ'))=some (d,σ',n')/\K d σ' n':=by
 unfold BBO at h;split at h
 ·rename_i kt et hu;split at h
  ·rename_i kd k m hk;split at h
   ·rename_i ro es hkey hσ;split at h
    ·obtain ⟨r,hr,hk'⟩:=h;refine ⟨_,_,_,?_,hk'⟩;simp only[one,AC5,hu,hk,hkey,hσ,hr];rfl
    ·exact h.elim
   ·exact h.elim
  ·exact h.elim
 ·exact h.elim
def AI0 {n:Nat} {b:Bool} {x:D} (h:A4B nN σ n b x K):∃ d σ' n',one n (S7 σ b x)=some (d,σ',n')/\K d σ' n':=by
 unfold A4B at h;split at h
 ·rename_i k;split at h
  ·rename_i s pos hσ;rw[rB] at h;by_cases hp:pos<s.size
   ·refine ⟨_,_,_,?_,h.1 (by simpa using hp)⟩;simp only[one,S7,hσ];rw[if_pos hp];rfl
   ·refine ⟨_,_,_,?_,h.2 (by simpa using hp)⟩;simp only[one,S7,hσ];rw[if_neg hp];rfl
  ·exact h.elim
 ·exact h.elim
def AAW {n:Nat} {f:D} {args:List D} (h:AHW nN P E σ n f args K):∃ d σ' n',nO E σ n f args=some (d,σ',n')/\K d σ' n':=by
 unfold AHW at h;split at h
 ·rename_i fid a b hc;split at h
  ·rename_i z g hE;unfold BEH at h;split at h
   ·rename_i k hargs;split at h
    ·rename_i ro z' rows hσ;split at h
     ·rename_i hz;obtain ⟨rows',h1,h2⟩:=h;refine ⟨_,_,_,?_,h2⟩;simp only[nO,hc,hE,EF,hargs,hσ,hz,h1,Option.map_some]
     ·exact h.elim
    ·exact h.elim
   ·exact h.elim
  ·rename_i z g hE;unfold BD8 at h;split at h
   ·rename_i r k rest hr hargs;split at h
    ·rename_i ro z' rows ts hσ hts;split at h
     ·rename_i hz;obtain ⟨l,h1,h2⟩:=h;rw[ac] at hz;have hw:r.w=z:=of_decide_eq_true hz.2;rw[hw] at h2;refine ⟨_,_,_,?_,h2⟩;simp only[nO,hc,hE,mV,hargs,hσ,hts,hz.1,h1,Option.map_some]
     ·exact h.elim
    ·exact h.elim
   ·exact h.elim
  ·rename_i z g hE;unfold BMP at h;split at h
   ·rename_i k hargs;split at h
    ·rename_i ro z' rows hσ;split at h
     ·rename_i hz;obtain ⟨h1,h2⟩:=h;refine ⟨_,_,_,?_,h2⟩;rw[ac] at h1;simp only[nO,hc,hE,CJ,hargs,hσ,hz,h1.1,h1.2,Bool.and_true]
     ·exact h.elim
    ·exact h.elim
   ·rename_i t hargs;split at h
    ·rename_i full rows hr;obtain ⟨h1,h2⟩:=h;refine ⟨_,_,_,?_,h2⟩;simp only[nO,hc,hE,CJ,hargs,hr,h1]
    ·exact h.elim
   ·exact h.elim
  ·rename_i z g hE;unfold A6R at h;split at h
   ·rename_i m hargs;obtain ⟨h1,h2⟩:=h;refine ⟨_,_,_,?_,h2⟩;simp only[nO,hc,hE,AAY,hargs,h1]
   ·exact h.elim
  ·rename_i g hE;unfold BEA at h;split at h
   ·rename_i k i j rest hargs;split at h
    ·rename_i ro ds hij hσ;split at h
     ·rename_i cs ts hcs hts;split at h
      ·rename_i sy s ss hsy hs;split at h
       ·rename_i hw;obtain ⟨y,h1,h2⟩:=h;refine ⟨_,_,_,?_,h2⟩;have h1':g (.agg cs::ts)=some (.bY (.agg (sy.enc y.1)::Sh.l6 (s::ss) y.2)):=h1;have hl:decide ((sy.enc y.1).length=cs.length)=true:=by rw[Sy.cP];exact hw
        simp only[nO,hc,hE,wD,hargs,hij,hσ,hcs,hts,h1',hl,ATT]
       ·exact h.elim
      ·exact h.elim
     ·exact h.elim
    ·exact h.elim
   ·exact h.elim
  ·rename_i c g hE;unfold BEG at h;split at h
   ·rename_i sy ts hsh hts;split at h
    ·rename_i z hz;obtain ⟨y,hg,h⟩:=h;split at h
     ·rename_i fl rows hcc;obtain ⟨h1,h2⟩:=h;refine ⟨_,_,_,?_,h2⟩;rw[ac] at h1;have hg':g ts=some (.agg (sy.enc y)):=hg;cases rows with
      | nil=>cases h1.1
      | cons r rows =>
       have hr:r.length=z:=by
        have:=List.all_eq_true.1 h1.2 r am;simpa using this
       subst hr;simp only[nO,hc,hE,hts,hg',hcc]
     ·exact h.elim
    ·exact h.elim
   ·exact h.elim
  ·split at h
   ·rename_i g r ts hE hr hts;obtain ⟨l,h1,h2⟩:=h;rw[rB] at h2;cases l with
    | nil =>
     refine ⟨_,_,_,?_,h2.1 rfl⟩;simp only[nO,hc,hE,hts,h1];rfl
    | cons x l =>
     refine ⟨_,_,_,?_,h2.2 rfl⟩;simp only[nO,hc,hE,hts,h1,List.map_cons,Sy.cP]
   ·rename_i g r ts hE hr hts;obtain ⟨l,h1,h2⟩:=h;rw[rB] at h2;have hm:(a++args++b).mapM (jB σ 4)=some ts:=by rw[iE hts];exact N7 σ 4 ts
    cases l with
    | nil =>
     refine ⟨_,_,_,?_,h2.1 rfl⟩;simp only[nO,hc,hE,hm,h1];rfl
    | cons x l =>
     obtain ⟨h3,h4⟩:=h2.2 rfl;refine ⟨_,_,_,?_,h4⟩;rw[List.map_cons] at h3;simp only[nO,hc,hE,hm,h1,List.map_cons,Sy.cP,h3]
   ·exact h.elim
 ·exact h.elim
def AHA {n:Nat} {t:TypeId} {d s:D} (h:AZY nN P σ n t d s K):∃ d' σ' n',one n (RR P σ t d s)=some (d',σ',n')/\K d' σ' n':=by
 unfold AZY at h;split at h
 case h_2=>exact h.elim
 rename_i e he;split at h
 case h_2=>exact h.elim
 rename_i z xs k hz hx;split at h
 case h_2=>exact h.elim
 rename_i ro z' rs hσ;split at h
 case h_2=>exact h.elim
 rename_i hzz;obtain ⟨hb,hk⟩:=h;simp only[ac,ah] at hb;refine ⟨_,_,_,?_,hk⟩;simp only[one,RR,he,hz,hx,hσ];rw[if_pos ⟨of_decide_eq_true hzz,hb.1.1,hb.1.2,hb.2⟩];rfl
def A4G {s:Nat->D} {n:Nat} {op:Op} (h:nvS nN P E σ s n op K):∃ d σ' n',nv P E σ s n op=some (d,σ',n')/\K d σ' n':=by
 unfold nvS at h;split at h
 ·exact AD8 h
 ·exact AIX h
 ·exact S4 h
 ·exact S4 h
 ·exact AI0 h
 ·rename_i c;split at h
  ·rename_i x y t u hc ha hat;obtain ⟨d,σ',n',h1,h2⟩:=UY h;refine ⟨d,σ',n',?_,h2⟩;simp only[nv,hc,ha,hat];exact h1
  ·rename_i x y t u hc ha hat;obtain ⟨d,σ',n',h1,h2⟩:=AHA h;refine ⟨d,σ',n',?_,h2⟩;simp only[nv,hc,ha,hat];exact h1
  ·rename_i f hc;obtain ⟨d,σ',n',h1,h2⟩:=AAW h;refine ⟨d,σ',n',?_,h2⟩;simp only[nv,hc,Z3,h1]
  ·exact h.elim
 ·exact TE h
end
def uX (σ:Nat->Option bE) (n:Nat) (σ':Nat->Option bE) (n':Nat):Prop:=n<=n'/\∀ k x,k<n->σ k=some x->gQ x=false->σ' k=some x
def uX.refl (σ:Nat->Option bE) (n:Nat):uX σ n σ n:=⟨al _,λ_ _ _ h _=>h⟩
variable {σ σ':Nat->Option bE}{n':Nat}
def uX.trans {σ'':Nat->Option bE} {n n'':Nat} (h:uX σ n σ' n') (h':uX σ' n' σ'' n''):uX σ n σ'' n'' :=
 ⟨Nat.le_trans h.1 h'.1,λk x hk hx hw=>h'.2 k x (Nat.lt_of_lt_of_le hk h.1) (h.2 k x hk hx hw) hw⟩
def uX.new {n:Nat} (x:Option bE) (h:n<=n'):uX σ n (cC σ n x) n':=⟨h,λk y hk hy _=>by rw[bK _ _ (by omega)];exact hy⟩
def uX.same {n:Nat} (h:n<=n'):uX σ n σ n':=⟨h,λ_ _ _ h _=>h⟩
def uX.set {n m:Nat} {x₀:bE} (x:Option bE) (h:n<=n') (hm:σ m=some x₀) (hw:gQ x₀=true):uX σ n (cC σ m x) n':=⟨h,λk y hk hy hy'=>by
 by_cases e:k=m
 ·subst e;rw[hm] at hy;cases hy;rw[hw] at hy';cases hy'
 ·rw[bK _ _ e];exact hy⟩
def gE (E:Env):Prop:=∀ f g,E f≠some (.heap g)
section
variable {P : Program} {E : Env}
def fI {n:Nat} {x:Option (D×(Nat->Option bE))} {d:D} (h:one n x=some (d,σ',n')):x=some (d,σ')/\n'=n+1:=by
 unfold one at h;cases x with
 | none=>cases h
 | some y=>obtain ⟨a,b⟩:=y;simp only[Option.map_some,Option.some.injEq,Prod.mk.injEq] at h;obtain ⟨rfl,rfl,rfl⟩:=h;exact ⟨rfl,rfl⟩
def AZN (hh:gE E) {n:Nat} {c:D} {args:List D} {d:D} (h:nO E σ n c args=some (d,σ',n')):uX σ n σ' n':=by
 unfold nO at h;split at h
 ·split at h
  ·split at h
   ·split at h
    ·split at h
     ·cases h;exact .same (by omega)
     ·cases h;exact .new _ (by omega)
    ·cases h
   ·split at h
    ·split at h
     ·split at h
      ·cases h;exact .new _ (by omega)
      ·cases h
     ·cases h
    ·cases h
  ·split at h
   ·split at h
    ·cases h;exact .same (by omega)
    ·split at h
     ·cases h;exact .new _ (by omega)
     ·cases h
    ·cases h
   ·cases h
  ·rename_i hg;exact absurd hg (hh _ _)
  ·unfold EF at h;split at h
   ·split at h
    ·rename_i hσ;split at h
     ·simp only[aa,Prod.mk.injEq] at h;obtain ⟨_,_,_,rfl,rfl⟩:=h;exact .set _ (by omega) hσ rfl
     ·cases h
    ·cases h
   ·cases h
  ·unfold mV at h;split at h
   ·split at h
    ·rename_i hσ;split at h
     ·simp only[aa,Prod.mk.injEq] at h;obtain ⟨_,_,_,rfl,rfl⟩:=h;exact (uX.set (n':=n) none (al _) hσ rfl).trans (.new _ (by omega))
     ·cases h
    ·cases h
   ·cases h
  ·unfold CJ at h;split at h
   ·split at h
    ·split at h
     ·simp only[Option.some.injEq,Prod.mk.injEq] at h;obtain ⟨_,rfl,rfl⟩:=h;exact .new _ (by omega)
     ·cases h
    ·cases h
   ·split at h
    ·split at h
     ·simp only[Option.some.injEq,Prod.mk.injEq] at h;obtain ⟨_,rfl,rfl⟩:=h;exact .new _ (by omega)
     ·cases h
    ·cases h
   ·cases h
  ·unfold AAY at h;split at h
   ·split at h
    ·simp only[Option.some.injEq,Prod.mk.injEq] at h;obtain ⟨_,rfl,rfl⟩:=h;exact .new _ (by omega)
    ·cases h
   ·cases h
  ·unfold wD at h;split at h
   ·split at h
    ·rename_i hσ;split at h
     ·split at h
      ·split at h
       ·simp only[Option.some.injEq,Prod.mk.injEq] at h;obtain ⟨_,rfl,rfl⟩:=h;exact .set _ (by omega) hσ rfl
       ·cases h
      ·cases h
     ·cases h
    ·cases h
   ·cases h
  ·split at h
   ·split at h
    ·split at h
     ·simp only[Option.some.injEq,Prod.mk.injEq] at h;obtain ⟨_,rfl,rfl⟩:=h;exact .new _ (by omega)
     ·cases h
    ·cases h
   ·cases h
  ·cases h
 ·cases h
def OJ:∀ {ps ps':List (Nat×D)} {σ σ1:Nat->Option bE} {n n':Nat},n<=n'->BD σ ps=some (ps',σ1)->uX σ n σ1 n'
 | [],ps',σ,σ1,n,n',hn,h=>by
  simp only[BD] at h;cases h;exact .same hn
 | p::ps,ps',σ,σ1,n,n',hn,h=>by
  obtain ⟨pi,pd⟩:=p;unfold BD at h;split at h
  ·rename_i e;cases e
  ·rename_i i k r e;cases e;split at h
   ·rename_i z rows hk;simp only[aa,Prod.mk.injEq] at h;obtain ⟨⟨_,_⟩,hg,_,rfl⟩:=h;exact (uX.set (n':=n) none (al _) hk rfl).trans (OJ hn hg)
   ·cases h
  ·rename_i i d r _ e;cases e;simp only[aa,Prod.mk.injEq] at h;obtain ⟨⟨_,_⟩,hg,_,rfl⟩:=h;exact OJ hn hg
def BNL (hh:gE E) {s:Nat->D} {n:Nat} {op:Op} {d:D} (h:nv P E σ s n op=some (d,σ',n')):uX σ n σ' n':=by
 unfold nv at h;split at h
 ·obtain ⟨h1,rfl⟩:=fI h;cases hz:tz? P _ with
  | none=>rw[hz] at h1;cases h1
  | some z =>
   rw[hz] at h1;simp only[Option.bind_some,aa,Prod.mk.injEq] at h1;obtain ⟨b,_,rfl,rfl⟩:=h1;exact .new _ (by omega)
 ·obtain ⟨h1,rfl⟩:=fI h;simp only[aa,Prod.mk.injEq] at h1;obtain ⟨b,_,rfl,rfl⟩:=h1;exact .new _ (by omega)
 ·obtain ⟨h1,rfl⟩:=fI h;simp only[aa,Prod.mk.injEq] at h1;obtain ⟨σ₂,h2,rfl,rfl⟩:=h1;unfold j4 at h2;split at h2
  ·split at h2
   ·rename_i hσ hz;split at h2
    ·split at h2
     ·cases h2;exact .set _ (by omega) hσ rfl
     ·cases h2
    ·cases h2
   ·rename_i hσ hz;split at h2
    ·split at h2
     ·cases h2;exact .set _ (by omega) hσ rfl
     ·cases h2
    ·cases h2
   ·cases h2
  ·cases h2
 ·split at h
  ·rename_i r hr;obtain ⟨h1,rfl⟩:=fI h;cases h1;unfold AMK at hr;split at hr
   ·split at hr
    ·cases hr;exact .new _ (by omega)
    ·cases hr
   ·cases hr;exact .new _ (by omega)
   ·cases hr;exact .new _ (by omega)
   ·cases hr
  ·obtain ⟨h1,rfl⟩:=fI h;unfold AJM at h1;split at h1
   ·cases h1;exact .new _ (by omega)
   ·cases h1
 ·split at h
  ·obtain ⟨h1,rfl⟩:=fI h;cases h1;exact .new _ (by omega)
  ·split at h
   ·obtain ⟨h1,rfl⟩:=fI h;cases h1;exact .new _ (by omega)
   ·cases h
 ·obtain ⟨h1,rfl⟩:=fI h;unfold S1 at h1;split at h1
  ·split at h1
   ·split at h1
    ·cases h1;exact .new _ (by omega)
    ·cases h1
   ·cases h1
  ·cases h1
 ·split at h
  ·rename_i hgv;split at h
   ·obtain ⟨h1,rfl⟩:=fI h;cases h1;exact (OJ (al _) hgv).trans (.new _ (by omega))
   ·cases h
  ·cases h
 ·obtain ⟨h1,rfl⟩:=fI h;simp only[aa,Prod.mk.injEq] at h1;obtain ⟨σ₂,h2,rfl,rfl⟩:=h1;unfold AC5 at h2;split at h2
  ·split at h2
   ·split at h2
    ·rename_i hσ;split at h2
     ·cases h2;exact .set _ (by omega) hσ rfl
     ·cases h2
    ·cases h2
   ·cases h2
  ·cases h2
 ·obtain ⟨h1,rfl⟩:=fI h;simp only[aa,Prod.mk.injEq] at h1;obtain ⟨σ₂,h2,rfl,rfl⟩:=h1;unfold AC5 at h2;split at h2
  ·split at h2
   ·split at h2
    ·rename_i hσ;split at h2
     ·cases h2;exact .set _ (by omega) hσ rfl
     ·cases h2
    ·cases h2
   ·cases h2
  ·cases h2
 ·obtain ⟨h1,rfl⟩:=fI h;unfold AMG at h1;split at h1
  ·split at h1
   ·split at h1
    ·rename_i hσ;split at h1
     ·cases h1;exact .set _ (by omega) hσ rfl
     ·cases h1;exact .set _ (by omega) hσ rfl
     ·cases h1
    ·cases h1
   ·cases h1
  ·cases h1
 ·obtain ⟨h1,rfl⟩:=fI h;simp only[aa,Prod.mk.injEq] at h1;obtain ⟨σ₂,h2,rfl,rfl⟩:=h1;unfold AML at h2;split at h2
  ·split at h2
   ·rename_i hσ;split at h2
    ·cases h2;exact .set _ (by omega) hσ rfl
    ·cases h2
   ·cases h2
  ·cases h2
 ·obtain ⟨h1,rfl⟩:=fI h;simp only[aa,Prod.mk.injEq] at h1;obtain ⟨_,_,_,rfl⟩:=h1;exact .same (by omega)
 ·obtain ⟨h1,rfl⟩:=fI h;unfold S7 at h1;split at h1
  ·split at h1
   ·rename_i hσ;split at h1
    ·cases h1;exact .set _ (by omega) hσ rfl
    ·cases h1;exact .same (by omega)
   ·cases h1
  ·cases h1
 ·split at h
  ·obtain ⟨h1,rfl⟩:=fI h;unfold jH at h1;split at h1
   ·split at h1
    ·split at h1
     ·split at h1
      ·split at h1
       ·split at h1
        ·split at h1
         ·cases h1;exact .new _ (by omega)
         ·cases h1
        ·split at h1
         ·cases h1;exact .same (by omega)
         ·split at h1
          ·cases h1;exact .new _ (by omega)
          ·cases h1
        ·cases h1
       ·split at h1
        ·rename_i hσ;split at h1
         ·cases h1;exact (uX.set (n':=n) none (al _) hσ rfl).trans (.new _ (by omega))
         ·cases h1
        ·cases h1
       ·cases h1
      ·cases h1
     ·cases h1
    ·cases h1
   ·unfold u6 at h1;split at h1
    ·split at h1
     ·split at h1
      ·split at h1
       ·split at h1
        ·rename_i hσ;split at h1
         ·cases h1;exact (uX.set (n':=n) none (al _) hσ rfl).trans (.new _ (by omega))
         ·cases h1
        ·cases h1
       ·split at h1
        ·split at h1
         ·cases h1;exact .same (by omega)
         ·split at h1
          ·cases h1;exact .same (by omega)
          ·cases h1
        ·cases h1
       ·cases h1
      ·cases h1
     ·cases h1
    ·cases h1
  ·unfold Z3 at h;split at h
   ·rename_i r hcf;cases h;exact AZN hh hcf
   ·simp only[aa,Prod.mk.injEq] at h;obtain ⟨_,_,_,rfl,rfl⟩:=h;exact .same (al _)
  ·obtain ⟨h1,rfl⟩:=fI h;unfold RR at h1;split at h1
   case h_2=>cases h1
   split at h1
   case h_2=>cases h1
   split at h1
   case h_2=>cases h1
   rename_i hσ;split at h1
   ·cases h1;exact .set _ (by omega) hσ rfl
   ·cases h1
  ·cases h
 ·cases h
end
section
variable (C : Combs) (P : Program) (E : Env) (nt : Nat)
def splitK (ops:Array Oper) (o:Oper) (st:St) (K:St->Prop):Prop:=match o.guard with
 | none=>K st
 | some (j,_)=>match (ops[j]?).bind (·.dst) with
  | none=>K st
  | some t=>match st.s t with
   | .p (.v (.bool b))=>aD b (K ⟨cC st.s t (.p (.v (.bool true))),st.σ,st.n⟩) (K ⟨cC st.s t (.p (.v (.bool false))),st.σ,st.n⟩)
   | _=>K st
def HW (st:St) (dst:Option Tmp) (d:D) (σ':Nat->Option bE) (n':Nat) (K:St->Prop):Prop:=match rM nt st dst d σ' n' with
 | some st'=>K st'
 | none=>C.bad 201
def BJ (ops:Array Oper) (o:Oper) (st:St) (K:St->Prop):Prop :=
 match fT ops st.s o with
 | some true=>match eH E o.op with
  | true=>qvS C P E st.n st.σ st.s (cL true st.s) o.op λd=>HW C nt st o.dst d st.σ st.n K
  | false=>nvS C P E st.σ (cL true st.s) st.n o.op λd σ' n'=>HW C nt st o.dst d σ' n' K
 | some false=>HW C nt st o.dst (.p (.v undef)) st.σ st.n K
 | none=>C.bad 202
end
def BOD (A:Nat->Bool) (st st':St):Prop:=∀ i,A i=false->st'.s i=st.s i
structure Fr (A:Nat->Bool) (st st':St):Prop where
 s:BOD A st st'
 b:uX st.σ st.n st'.σ st'.n
def Fr.refl (A:Nat->Bool) (st:St):Fr A st st:=⟨λ_ _=>rfl,uX.refl _ _⟩
variable {A:Nat->Bool}{st st':St}
def Fr.trans {st'':St} (h:Fr A st st') (h':Fr A st' st''):Fr A st st'':=⟨λi hi=>(h'.s i hi).trans (h.s i hi),h.b.trans h'.b⟩
def Fr.mono {B:Nat->Bool} (h:Fr A st st') (hab:∀ i,B i=false->A i=false):Fr B st st':=⟨λi hi=>h.s i (hab i hi),h.b⟩
section
variable {P : Program} {E : Env} {nt : Nat} {ops : Array Oper}
def sK {o:Oper} {K:St->Prop} (h:splitK ops o st K):K st:=by
 unfold splitK at h;split at h
 ·exact h
 ·split at h
  ·exact h
  ·rename_i t ht;split at h
   ·rename_i b hb;have key:∀ c,b=c->(⟨cC st.s t (.p (.v (.bool c))),st.σ,st.n⟩:St)=st:=by
     intro c hc;subst hc;have:cC st.s t (.p (.v (.bool b)))=st.s:=by
      funext i
      by_cases e:i=t
      ·subst e;rw[fN,hb]
      ·rw[bK _ _ e]
     rw[this]
    cases b with
    | true=>rw[<-key true rfl];exact h
    | false=>rw[<-key false rfl];exact h
   ·exact h
variable {dst:Option Tmp}
def iX {d:D} {K:St->Prop} (h:HW nN nt st dst d σ' n' K):∃ st',rM nt st dst d σ' n'=some st'/\K st':=by
 unfold HW at h;split at h
 ·exact ⟨_,‹_›,h⟩
 ·exact h.elim
def jO {o:Oper} {K:St->Prop} (h:BJ nN P E nt ops o st K):∃ st',fE P E nt ops o st=some st'/\K st':=by
 unfold BJ at h;unfold fE;split at h
 ·rename_i hg;split at h
  ·rename_i hq;obtain ⟨d,h1,h2⟩:=A49 h;obtain ⟨st',h3,h4⟩:=iX h2;exact ⟨st',by simp only[hq,if_true,iC,hg,h1,h3],h4⟩
  ·rename_i hq;obtain ⟨d,σ',n',h1,h2⟩:=A4G h;obtain ⟨st',h3,h4⟩:=iX h2;exact ⟨st',by simp only[hq,Bool.false_eq_true,if_false,hg,h1,h3],h4⟩
 ·rename_i hg;obtain ⟨st',h3,h4⟩:=iX h;refine ⟨st',?_,h4⟩;by_cases hq:eH E o.op=true
  ·simp only[hq,if_true,iC,hg,h3]
  ·simp only[hq,Bool.false_eq_true,if_false,hg,h3]
 ·exact h.elim
def oI {d:D} (h:rM nt st dst d σ' n'=some st') (hA:∀ t,dst=some t->A t=true) (hf:uX st.σ st.n σ' n'):Fr A st st':=by
 obtain ⟨_,rfl⟩:=sD h;refine ⟨λi hi=>?_,hf⟩;unfold rO;cases dst with
 | none=>rfl
 | some t=>exact bK _ _ λe=>by subst e;rw[hA _ rfl] at hi;cases hi
def lS (hh:gE E) {o:Oper} (h:fE P E nt ops o st=some st') (hA:∀ t,o.dst=some t->A t=true):Fr A st st':=by
 unfold fE at h;split at h
 ·split at h
  ·exact oI h hA (uX.refl _ _)
  ·cases h
 ·split at h
  ·split at h
   ·rename_i d σ' n' hn;exact oI h hA (BNL hh hn)
   ·cases h
  ·exact oI h hA (uX.refl _ _)
  ·cases h
end
end Go.Pv
