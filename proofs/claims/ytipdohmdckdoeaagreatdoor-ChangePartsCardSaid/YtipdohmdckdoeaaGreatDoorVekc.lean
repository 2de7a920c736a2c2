/-
  The symbolic executor, part c: operations that write or make memory; a whole region.
-/
import Derived.Test.YtipdohmdckdoeaaGreatDoorVekb
set_option linter.defProp false
set_option linter.unusedSimpArgs false
namespace Go.Pv
open Go Go.RowKit
abbrev KN:=D->(Nat->Option bH)->Nat->Prop
section
variable (C : Combs) (P : Program) (E : Env)
def A8H (c:Nat) (x:Option (D×(Nat->Option bH)×Nat)) (K:KN):Prop:=match x with
 | some (d,σ',n')=>K d σ' n'
 | none=>C.bad c
def AJC (σ:Nat->Option bH) (n:Nat) (t:TypeId) (a v:D) (K:KN):Prop :=
 match a with
 | .ptr k i j=>match σ k with
  | some (.arr ro za rows)=>match ro,tsz? P t,nH v.cells with
   | false,some z,some ts=>match decide (0<z)&&ts.length == z&&ts.all T.leaf with
    | true=>C.row rows i λr=>C.zM (decide (j+z<=r.length)) (K (.p (.v undef)) (bZ σ k (some (.arr false za (rows.set i (bV r j ts))))) (n+1))
    | false=>C.bad 101
   | _,_,_=>C.bad 102
  | _=>A8H C 103 (one n ((jP P σ t a v).map λσ'=>(.p (.v undef),σ'))) K
 | _=>C.bad 104
def UT (a b:List (List T)):List (List T):=a++b
def L5 (σ:Nat->Option bH) (n:Nat) (u e:TypeId) (s x:D) (K:KN):Prop :=
 match P.underlying u,x with
 | some .string,.p (.v (.string b))=>match tsz? P e,tby? P e,tz? P e,s with
  | some z,some by_,some zv,.own k₀=>match decide (z=1)&&zv.cells.size == 1&&zv.cells.all Value.oneCell',σ k₀ with
   | true,some (.arr false z' rs)=>C.zM (decide (z'=1)&&decide ((rs.length+b.size)*by_<=140737488355328)&&decide (rs.length+b.size<=140737488355328)) (K (.own n) (bZ (bZ σ k₀ none) n (some (.arr false 1 (rs++dB b)))) (n+1))
   | _,_=>C.bad 118
  | _,_,_,_=>C.bad 119
 | _,_=>C.bad 117
def UO (σ:Nat->Option bH) (n:Nat) (t u:TypeId) (s x:D) (K:KN):Prop :=
 match decide (t=u),l6 P t with
 | true,some e =>
  match tsz? P e,tby? P e,tz? P e,OQ σ x with
  | some z,some by_,some zv,some xs =>
   match decide (0<z)&&zv.cells.size == z&&zv.cells.all Value.oneCell' with
   | true=>match s with
    | .p st=>match eZ st with
     | some (full,[])=>C.zM (eQ z xs&&full&&decide (xs.length*by_<=140737488355328)&&decide (xs.length<=140737488355328)) (K (.own n) (bZ σ n (some (.arr false z xs))) (n+1))
     | some (full,r::rows)=>aC xs.isEmpty (K (.p st) σ (n+1)) (C.zM (full&&eQ z (r::rows)&&eQ z xs&&decide (((r::rows).length+xs.length)*by_<=140737488355328)&&decide ((r::rows).length+xs.length<=140737488355328)) (K (.own n) (bZ σ n (some (.arr false z (UT (r::rows) xs)))) (n+1)))
     | none=>C.bad 111
    | .own k₀=>match σ k₀ with
     | some (.arr ro z' rs)=>match ro with
      | false=>C.zM (decide (z'=z)&&eQ z xs&&decide ((rs.length+xs.length)*by_<=140737488355328)&&decide (rs.length+xs.length<=140737488355328)) (K (.own n) (bZ (bZ σ k₀ none) n (some (.arr false z (rs++xs)))) (n+1))
      | true=>C.bad 112
     | _=>C.bad 113
    | _=>C.bad 114
   | false=>C.bad 115
  | _,_,_,_=>C.bad 116
 | false,some e=>L5 C P σ n u e s x K
 | _,_=>C.bad 117
def A0D (σ:Nat->Option bH) (n:Nat) (t:TypeId) (len cap:D) (K:KN):Prop :=
 match l6 P t with
 | some e =>
  match tsz? P e,tby? P e,tz? P e,len,cap with
  | some z,some by_,some zv,.p (.v (.int _ a)),.p (.v (.int _ b)) =>
   match decide (0<z)&&zv.cells.size == z&&zv.cells.all Value.oneCell' with
   | true=>C.zM ((decide (a=b)||decide (a=0))&&decide (0<=b)&&decide (b*by_<=140737488355328)&&decide (b<=140737488355328)) (K (.own n) (bZ σ n (some (.arr false z (List.replicate a.toNat (zv.cells.toList.map .v))))) (n+1))
   | false=>C.bad 121
  | _,_,_,_,_=>C.bad 122
 | none=>C.bad 123
def A7G (σ:Nat->Option bH) (n:Nat) (t:TypeId) (x i v:D) (K:KN):Prop :=
 match P.underlying t with
 | some (.map kt _) =>
  match vC P kt,i,x with
  | some kd,.p (.v k),.map m =>
   match CB kd k,σ m with
   | true,some (.map ro es)=>match ro with
    | false=>C.opt _ (findD kd k es 0) λr=>K (.p (.v undef)) (bZ σ m (some (.map false (eJ es r k v)))) (n+1)
    | true=>C.bad 131
   | _,_=>C.bad 132
  | _,_,_=>C.bad 133
 | _=>C.bad 134
def A0O (σ:Nat->Option bH) (n:Nat) (isString:Bool) (d:D) (K:KN):Prop :=
 match isString,d with
 | true,.it k=>match σ k with
  | some (.kP s pos)=>aC (decide (pos<s.size)) (K (.p (.v (.tuple #[.bool true,.int .i64 pos,.int .i32 (Utf8.decode s pos).1]))) (bZ σ k (some (.kP s (pos+(Utf8.decode s pos).2)))) (n+1)) (K (.p (.v (.tuple #[.bool false]))) σ (n+1))
  | _=>C.bad 141
 | _,_=>C.bad 142
def AXH (fid:FuncId):Option Sy:=match P.funcs[fid]? with
 | some fn=>match fn.resultTypes.toList with
  | [t]=>match l6 P t with
   | some e=>AC5 P e
   | none=>none
  | _=>none
 | none=>none
def A9W (z:Nat) (g:List (List T)->Option (List (List T))) (σ:Nat->Option bH) (n:Nat) (args:List D) (K:KN):Prop :=
 match args with
 | [.own k]=>match σ k with
  | some (.arr ro z' rows)=>match ro,decide (z'=z) with
   | false,true=>C.opt (List (List T)) (g rows) λrows'=>K (.p (.v (.tuple #[]))) (bZ σ k (some (.arr false z rows'))) (n+1)
   | _,_=>C.bad 155
  | _=>C.bad 156
 | _=>C.bad 157
def A9P (z:Nat) (g:List (List T)->List T->Option (List (List T))) (o:Option Sy) (σ:Nat->Option bH) (n:Nat) (args:List D) (K:KN):Prop :=
 match o,args with
 | some r,.own k::rest=>match σ k,nH rest with
  | some (.arr ro z' rows),some ts=>match ro,decide (z'=z)&&decide (r.w=z) with
   | false,true=>C.fresh r (g rows ts) λl=>K (.own n) (bZ (bZ σ k none) n (some (.arr false r.w (l.map r.enc)))) (n+1)
   | _,_=>C.bad 165
  | _,_=>C.bad 166
 | _,_=>C.bad 167
def BHE (z y:Nat) (σ:Nat->Option bH) (n:Nat) (args:List D) (K:KN):Prop :=
 match args with
 | [.own k]=>match σ k with
  | some (.arr _ z' rows)=>match decide (z'=z) with
   | true=>C.zM (decide (rows.length*y<=140737488355328)&&decide (rows.length<=140737488355328)) (K (.own n) (bZ σ n (some (.arr false z rows))) (n+1))
   | false=>C.bad 168
  | _=>C.bad 169
 | [.p t]=>match eZ t with
  | some (_,rows)=>C.zM ((rows.all λr=>decide (r.length=z))&&decide (rows.length*y<=140737488355328)&&decide (rows.length<=140737488355328)) (K (.own n) (bZ σ n (some (.arr false z rows))) (n+1))
  | none=>C.bad 170
 | _=>C.bad 171
def A22 (z y:Nat) (σ:Nat->Option bH) (n:Nat) (args:List D) (K:KN):Prop :=
 match args with
 | [.p (.v (.slice none 0 0)),.p (.v (.int .i64 m))]=>C.zM (decide (0<=m)&&decide (m.toNat*y<=140737488355328)&&decide (m.toNat<=140737488355328)) (K (.own n) (bZ σ n (some (.arr false z []))) (n+1))
 | _=>C.bad 172
def AZ6:Sy->Nat->Option Nat
 | .pr a b,c=>match Nat.blt c a.w with
  | true=>AZ6 a c
  | false=>AZ6 b (c-a.w)
 | .li r,0=>some r.w
 | _,_=>none
def A9V (c:Nat) (g:List T->Option T) (fid:FuncId) (σ:Nat->Option bH) (n:Nat) (args:List D) (K:KN):Prop :=
 match A16 P fid,nH args with
 | some [(true,sy)],some ts=>match AZ6 sy c with
  | some z=>C.call [(true,sy)] (g ts) λy=>match (sy.enc y)[c]? with
   | some (.sl _ rows)=>C.zM (!rows.isEmpty&&eQ z rows) (K (.agg (((sy.enc y).map D.p).set c (.own n))) (bZ σ n (some (.arr false z rows))) (n+1))
   | _=>C.bad 175
  | none=>C.bad 176
 | _,_=>C.bad 177
def BII (fid:FuncId):Option Sy:=match P.funcs[fid]? with
 | some fn=>match fn.params.toList with
  | t::_=>match P.underlying t with
   | some (.pointer e)=>AC5 P e
   | _=>none
  | []=>none
 | none=>none
def ARN (s:Bool×Sy) (ss:Sh) (y:Sh.den (s::ss)):ARM (Sh.lT (s::ss) y)=Sh.enc (s::ss) y:=by
 cases ss with
 | nil=>rfl
 | cons a l=>cases l<;>rfl
def A9R (g:List T->Option T) (fid:FuncId) (σ:Nat->Option bH) (n:Nat) (args:List D) (K:KN):Prop :=
 match args with
 | .ptr k i j::rest=>match decide (i=0)&&decide (j=0),σ k with
  | true,some (.rows ro [ds])=>match ro,nH ds,nH rest with
   | false,some cs,some ts=>match BII P fid,A16 P fid with
    | some sy,some (s::ss)=>match decide (sy.w=cs.length) with
     | true=>C.call ((true,sy)::s::ss) (g (.agg cs::ts)) λy=>K (.p (Sh.enc (s::ss) y.2)) (bZ σ k (some (.rows false [(sy.enc y.1).map .p]))) (n+1)
     | false=>C.bad 181
    | _,_=>C.bad 182
   | _,_,_=>C.bad 183
  | _,_=>C.bad 184
 | _=>C.bad 185
def AGH (σ:Nat->Option bH) (n:Nat) (f:D) (args:List D) (K:KN):Prop :=
 match jQ f with
 | some (fid,a,b)=>match E fid with
  | some (.perm z g)=>A9W C z g σ n (a++args++b) K
  | some (.grow z g)=>A9P C z g (AXH P fid) σ n (a++args++b) K
  | some (.dup z y)=>BHE C z y σ n (a++args++b) K
  | some (.room z y)=>A22 C z y σ n (a++args++b) K
  | some (.AP9 g)=>A9R C P g fid σ n (a++args++b) K
  | some (.part c g)=>A9V C P c g fid σ n (a++args++b) K
  | _=>match E fid,AXH P fid,nH (a++args++b) with
   | some (.fresh g),some r,some ts=>C.fresh r (g ts) λl=>aC l.isEmpty (K (.p (.sl false [])) σ (n+1)) (K (.own n) (bZ σ n (some (.arr false r.w (l.map r.enc)))) (n+1))
   | some (.NG g),some r,some ts=>C.fresh r (g ts) λl=>aC l.isEmpty (K (.p (.sl true [])) σ (n+1)) (C.zM ((l.map r.enc).all λx=>x.all T.flat) (K (.own n) (bZ σ n (some (.arr false r.w (l.map r.enc)))) (n+1)))
   | _,_,_=>C.bad 151
 | none=>C.bad 152
def nvS (σ:Nat->Option bH) (s:Nat->D) (n:Nat) (op:Op) (K:KN):Prop :=
 match op with
 | .store t a v=>AJC C P σ n t (ev s a) (ev s v) K
 | .makeSlice t l c=>A0D C P σ n t (ev s l) (ev s c) K
 | .mapUpdate t m i v=>A7G C P σ n t (ev s m) (ev s i) (ev s v) K
 | .insert t m i v=>A7G C P σ n t (ev s m) (ev s i) (ev s v) K
 | .next it isString=>A0O C σ n isString (ev s it) K
 | .call c =>
  match c.callee,c.args.toList,c.argTypes.toList with
  | .builtin .append,[x,y],[t,u]=>UO C P σ n t u (ev s x) (ev s y) K
  | .value f,as,_=>AGH C P E σ n (ev s f) (as.map (ev s)) K
  | _,_,_=>C.bad 161
 | op=>A8H C 162 (nv P E σ s n op) K
end
section
variable {P : Program} {E : Env}
variable {K:KN}
def S2 {c:Nat} {x:Option (D×(Nat->Option bH)×Nat)} (h:A8H oC c x K):∃ d σ' n',x=some (d,σ',n')/\K d σ' n':=by
 unfold A8H at h;split at h
 ·exact ⟨_,_,_,rfl,h⟩
 ·exact h.elim
variable {σ:Nat->Option bH}
def AC4 {n:Nat} {t:TypeId} {a v:D} (h:AJC oC P σ n t a v K):∃ d σ' n',one n ((jP P σ t a v).map λσ'=>(D.p (.v undef),σ'))=some (d,σ',n')/\K d σ' n':=by
 unfold AJC at h;split at h
 ·rename_i k i j;split at h
  ·rename_i ro za rows hσ;split at h
   ·rename_i z ts hz hts;split at h
    ·rename_i hc;simp only[ac,ah,beq_iff_eq] at hc;obtain ⟨r,hr,hb,hk⟩:=h;have hb:j+z<=r.length:=of_decide_eq_true hb;refine ⟨_,_,_,?_,hk⟩;simp only[one,jP,hσ,hz,hr,hts];rw[if_pos ⟨hc.1.1,hc.1.2,hb,hc.2⟩];rfl
    ·exact h.elim
   ·exact h.elim
  ·exact S2 h
 ·exact h.elim
def QA {n:Nat} {t u e:TypeId} {s x:D} (he:l6 P t=some e) (h:L5 oC P σ n u e s x K):∃ d σ' n',one n (uP P σ n t u s x)=some (d,σ',n')/\K d σ' n':=by
 unfold L5 at h;split at h
 ·rename_i b hu;split at h
  ·rename_i z by_ zv k₀ hz hby hzv;split at h
   ·rename_i z' rs hc hσ;simp only[ac,ah,beq_iff_eq] at hc;obtain ⟨hb,hk⟩:=h;simp only[ac,ah] at hb;refine ⟨_,_,_,?_,hk⟩;simp only[one,uP,he,hu,hz,hby,hzv];rw[if_pos ⟨hc.1.1,hc.1.2,hc.2⟩];simp only[hσ];rw[if_pos ⟨hb.1.1,hb.1.2,hb.2⟩];rfl
   ·exact h.elim
  ·exact h.elim
 ·exact h.elim
def UP {n:Nat} {t u:TypeId} {s x:D} (h:UO oC P σ n t u s x K):∃ d σ' n',one n (iV P σ n t u s x)=some (d,σ',n')/\K d σ' n':=by
 unfold UO at h;split at h
 ·rename_i e htu he;have htu:t=u:=of_decide_eq_true htu;split at h
  ·rename_i z by_ zv xs hz hby hzv hxs;split at h
   ·rename_i hc;simp only[ac,ah,beq_iff_eq] at hc;split at h
    ·rename_i st;split at h
     ·rename_i full hrow;obtain ⟨hb,hk⟩:=h;simp only[ac,ah] at hb;refine ⟨_,_,_,?_,hk⟩;simp only[one,iV,if_pos htu,he,hz,hby,hzv,hxs];rw[if_pos ⟨hc.1.1,hc.1.2,hc.2,hb.1.1.1⟩];simp only[hrow];rw[if_pos ⟨hb.1.1.2,hb.1.2,hb.2⟩];rfl
     ·rename_i full r rows hrow;rw[qR] at h;cases xs with
      | nil =>
       refine ⟨_,_,_,?_,h.1 rfl⟩;simp only[one,iV,if_pos htu,he,hz,hby,hzv,hxs];rw[if_pos ⟨hc.1.1,hc.1.2,hc.2,rfl⟩];simp only[hrow];rfl
      | cons x0 xs =>
       obtain ⟨hb,hk⟩:=h.2 rfl;simp only[ac,ah] at hb;refine ⟨_,_,_,?_,hk⟩;simp only[one,iV,if_pos htu,he,hz,hby,hzv,hxs];rw[if_pos ⟨hc.1.1,hc.1.2,hc.2,hb.1.1.2⟩];simp only[hrow];rw[if_pos ⟨hb.1.1.1.1,hb.1.1.1.2,hb.1.2,hb.2⟩];rfl
     ·exact h.elim
    ·rename_i k₀;split at h
     ·rename_i ro z' rs hσ;split at h
      ·obtain ⟨hb,hk⟩:=h;simp only[ac,ah] at hb;refine ⟨_,_,_,?_,hk⟩;simp only[one,iV,if_pos htu,he,hz,hby,hzv,hxs];rw[if_pos ⟨hc.1.1,hc.1.2,hc.2,hb.1.1.2⟩];simp only[hσ];rw[if_pos ⟨hb.1.1.1,hb.1.2,hb.2⟩];rfl
      ·exact h.elim
     ·exact h.elim
    ·exact h.elim
   ·exact h.elim
  ·exact h.elim
 ·rename_i e htu he;obtain ⟨d,σ',n',h1,h2⟩:=QA (t:=t) he h;refine ⟨d,σ',n',?_,h2⟩;unfold iV;rw[if_neg (of_decide_eq_false htu)];exact h1
 ·exact h.elim
def AHF {n:Nat} {t:TypeId} {a b:D} (h:A0D oC P σ n t a b K):∃ d σ' n',one n (SN P σ n t a b)=some (d,σ',n')/\K d σ' n':=by
 unfold A0D at h;split at h
 ·rename_i e he;split at h
  ·rename_i z by_ zv k1 x k2 y hz hby hzv;split at h
   ·rename_i hc;simp only[ac,ah,beq_iff_eq] at hc;obtain ⟨hb,hk⟩:=h;simp only[ac,Bool.or_eq_true,ah] at hb;refine ⟨_,_,_,?_,hk⟩;simp only[one,SN,he,hz,hby,hzv];rw[if_pos ⟨hb.1.1.1,hb.1.1.2,hb.1.2,hb.2,hc.1.1,hc.1.2,hc.2⟩];rfl
   ·exact h.elim
  ·exact h.elim
 ·exact h.elim
def SQ {n:Nat} {t:TypeId} {x i v:D} (h:A7G oC P σ n t x i v K):∃ d σ' n',one n ((AB0 P σ t x i v).map λσ'=>(D.p (.v undef),σ'))=some (d,σ',n')/\K d σ' n':=by
 unfold A7G at h;split at h
 ·rename_i kt et hu;split at h
  ·rename_i kd k m hk;split at h
   ·rename_i ro es hkey hσ;split at h
    ·obtain ⟨r,hr,hk'⟩:=h;refine ⟨_,_,_,?_,hk'⟩;simp only[one,AB0,hu,hk,hkey,hσ,hr];rfl
    ·exact h.elim
   ·exact h.elim
  ·exact h.elim
 ·exact h.elim
def AHK {n:Nat} {b:Bool} {x:D} (h:A0O oC σ n b x K):∃ d σ' n',one n (SS σ b x)=some (d,σ',n')/\K d σ' n':=by
 unfold A0O at h;split at h
 ·rename_i k;split at h
  ·rename_i s pos hσ;rw[qR] at h;by_cases hp:pos<s.size
   ·refine ⟨_,_,_,?_,h.1 (by simpa using hp)⟩;simp only[one,SS,hσ];rw[if_pos hp];rfl
   ·refine ⟨_,_,_,?_,h.2 (by simpa using hp)⟩;simp only[one,SS,hσ];rw[if_neg hp];rfl
  ·exact h.elim
 ·exact h.elim
def Z5 {n:Nat} {f:D} {args:List D} (h:AGH oC P E σ n f args K):∃ d σ' n',nM E σ n f args=some (d,σ',n')/\K d σ' n':=by
 unfold AGH at h;split at h
 ·rename_i fid a b hc;split at h
  ·rename_i z g hE;unfold A9W at h;split at h
   ·rename_i k hargs;split at h
    ·rename_i ro z' rows hσ;split at h
     ·rename_i hz;obtain ⟨rows',h1,h2⟩:=h;refine ⟨_,_,_,?_,h2⟩;simp only[nM,hc,hE,DD,hargs,hσ,hz,h1,Option.map_some]
     ·exact h.elim
    ·exact h.elim
   ·exact h.elim
  ·rename_i z g hE;unfold A9P at h;split at h
   ·rename_i r k rest hr hargs;split at h
    ·rename_i ro z' rows ts hσ hts;split at h
     ·rename_i hz;obtain ⟨l,h1,h2⟩:=h;rw[ac] at hz;have hw:r.w=z:=of_decide_eq_true hz.2;rw[hw] at h2;refine ⟨_,_,_,?_,h2⟩;simp only[nM,hc,hE,mP,hargs,hσ,hts,hz.1,h1,Option.map_some]
     ·exact h.elim
    ·exact h.elim
   ·exact h.elim
  ·rename_i z g hE;unfold BHE at h;split at h
   ·rename_i k hargs;split at h
    ·rename_i ro z' rows hσ;split at h
     ·rename_i hz;obtain ⟨h1,h2⟩:=h;refine ⟨_,_,_,?_,h2⟩;rw[ac] at h1;simp only[nM,hc,hE,B5,hargs,hσ,hz,h1.1,h1.2,Bool.and_true]
     ·exact h.elim
    ·exact h.elim
   ·rename_i t hargs;split at h
    ·rename_i full rows hr;obtain ⟨h1,h2⟩:=h;refine ⟨_,_,_,?_,h2⟩;simp only[nM,hc,hE,B5,hargs,hr,h1]
    ·exact h.elim
   ·exact h.elim
  ·rename_i z g hE;unfold A22 at h;split at h
   ·rename_i m hargs;obtain ⟨h1,h2⟩:=h;refine ⟨_,_,_,?_,h2⟩;simp only[nM,hc,hE,Z7,hargs,h1]
   ·exact h.elim
  ·rename_i g hE;unfold A9R at h;split at h
   ·rename_i k i j rest hargs;split at h
    ·rename_i ro ds hij hσ;split at h
     ·rename_i cs ts hcs hts;split at h
      ·rename_i sy s ss hsy hs;split at h
       ·rename_i hw;obtain ⟨y,h1,h2⟩:=h;refine ⟨_,_,_,?_,h2⟩;have h1':g (.agg cs::ts)=some (.b7 (.agg (sy.enc y.1)::Sh.lT (s::ss) y.2)):=h1;have hl:decide ((sy.enc y.1).length=cs.length)=true:=by rw[Sy.cW];exact hw
        simp only[nM,hc,hE,vZ,hargs,hij,hσ,hcs,hts,h1',hl,ARN]
       ·exact h.elim
      ·exact h.elim
     ·exact h.elim
    ·exact h.elim
   ·exact h.elim
  ·rename_i c g hE;unfold A9V at h;split at h
   ·rename_i sy ts hsh hts;split at h
    ·rename_i z hz;obtain ⟨y,hg,h⟩:=h;split at h
     ·rename_i fl rows hcc;obtain ⟨h1,h2⟩:=h;refine ⟨_,_,_,?_,h2⟩;rw[ac] at h1;have hg':g ts=some (.agg (sy.enc y)):=hg;cases rows with
      | nil=>cases h1.1
      | cons r rows =>
       have hr:r.length=z:=by
        have:=List.all_eq_true.1 h1.2 r am;simpa using this
       subst hr;simp only[nM,hc,hE,hts,hg',hcc]
     ·exact h.elim
    ·exact h.elim
   ·exact h.elim
  ·split at h
   ·rename_i g r ts hE hr hts;obtain ⟨l,h1,h2⟩:=h;rw[qR] at h2;cases l with
    | nil =>
     refine ⟨_,_,_,?_,h2.1 rfl⟩;simp only[nM,hc,hE,hts,h1];rfl
    | cons x l =>
     refine ⟨_,_,_,?_,h2.2 rfl⟩;simp only[nM,hc,hE,hts,h1,List.map_cons,Sy.cW]
   ·rename_i g r ts hE hr hts;obtain ⟨l,h1,h2⟩:=h;rw[qR] at h2;have hm:(a++args++b).mapM (iO σ 4)=some ts:=by rw[gO hts];exact NJ σ 4 ts
    cases l with
    | nil =>
     refine ⟨_,_,_,?_,h2.1 rfl⟩;simp only[nM,hc,hE,hm,h1];rfl
    | cons x l =>
     obtain ⟨h3,h4⟩:=h2.2 rfl;refine ⟨_,_,_,?_,h4⟩;rw[List.map_cons] at h3;simp only[nM,hc,hE,hm,h1,List.map_cons,Sy.cW,h3]
   ·exact h.elim
 ·exact h.elim
def A0U {s:Nat->D} {n:Nat} {op:Op} (h:nvS oC P E σ s n op K):∃ d σ' n',nv P E σ s n op=some (d,σ',n')/\K d σ' n':=by
 unfold nvS at h;split at h
 ·exact AC4 h
 ·exact AHF h
 ·exact SQ h
 ·exact SQ h
 ·exact AHK h
 ·rename_i c;split at h
  ·rename_i x y t u hc ha hat;obtain ⟨d,σ',n',h1,h2⟩:=UP h;refine ⟨d,σ',n',?_,h2⟩;simp only[nv,hc,ha,hat];exact h1
  ·rename_i f hc;obtain ⟨d,σ',n',h1,h2⟩:=Z5 h;refine ⟨d,σ',n',?_,h2⟩;simp only[nv,hc,ZB,h1]
  ·exact h.elim
 ·exact S2 h
end
def uM (σ:Nat->Option bH) (n:Nat) (σ':Nat->Option bH) (n':Nat):Prop:=n<=n'/\∀ k x,k<n->σ k=some x->gC x=false->σ' k=some x
def uM.refl (σ:Nat->Option bH) (n:Nat):uM σ n σ n:=⟨al _,λ_ _ _ h _=>h⟩
variable {σ σ':Nat->Option bH}{n':Nat}
def uM.trans {σ'':Nat->Option bH} {n n'':Nat} (h:uM σ n σ' n') (h':uM σ' n' σ'' n''):uM σ n σ'' n'' :=
 ⟨Nat.le_trans h.1 h'.1,λk x hk hx hw=>h'.2 k x (Nat.lt_of_lt_of_le hk h.1) (h.2 k x hk hx hw) hw⟩
def uM.new {n:Nat} (x:Option bH) (h:n<=n'):uM σ n (bZ σ n x) n':=⟨h,λk y hk hy _=>by rw[bL _ _ (by omega)];exact hy⟩
def uM.same {n:Nat} (h:n<=n'):uM σ n σ n':=⟨h,λ_ _ _ h _=>h⟩
def uM.set {n m:Nat} {x₀:bH} (x:Option bH) (h:n<=n') (hm:σ m=some x₀) (hw:gC x₀=true):uM σ n (bZ σ m x) n':=⟨h,λk y hk hy hy'=>by
 by_cases e:k=m
 ·subst e;rw[hm] at hy;cases hy;rw[hw] at hy';cases hy'
 ·rw[bL _ _ e];exact hy⟩
def fQ (E:Env):Prop:=∀ f g,E f≠some (.heap g)
section
variable {P : Program} {E : Env}
def eX {n:Nat} {x:Option (D×(Nat->Option bH))} {d:D} (h:one n x=some (d,σ',n')):x=some (d,σ')/\n'=n+1:=by
 unfold one at h;cases x with
 | none=>cases h
 | some y=>obtain ⟨a,b⟩:=y;simp only[Option.map_some,Option.some.injEq,Prod.mk.injEq] at h;obtain ⟨rfl,rfl,rfl⟩:=h;exact ⟨rfl,rfl⟩
def AWS (hh:fQ E) {n:Nat} {c:D} {args:List D} {d:D} (h:nM E σ n c args=some (d,σ',n')):uM σ n σ' n':=by
 unfold nM at h;split at h
 ·split at h
  ·split at h
   ·split at h
    ·split at h
     ·cases h;exact .same (by omega)
     ·cases h;exact .new _ (by omega)
    ·cases h
   ·split at h
    ·split at h
     ·split at h
      ·cases h;exact .new _ (by omega)
      ·cases h
     ·cases h
    ·cases h
  ·split at h
   ·split at h
    ·cases h;exact .same (by omega)
    ·split at h
     ·cases h;exact .new _ (by omega)
     ·cases h
    ·cases h
   ·cases h
  ·rename_i hg;exact absurd hg (hh _ _)
  ·unfold DD at h;split at h
   ·split at h
    ·rename_i hσ;split at h
     ·simp only[aa,Prod.mk.injEq] at h;obtain ⟨_,_,_,rfl,rfl⟩:=h;exact .set _ (by omega) hσ rfl
     ·cases h
    ·cases h
   ·cases h
  ·unfold mP at h;split at h
   ·split at h
    ·rename_i hσ;split at h
     ·simp only[aa,Prod.mk.injEq] at h;obtain ⟨_,_,_,rfl,rfl⟩:=h;exact (uM.set (n':=n) none (al _) hσ rfl).trans (.new _ (by omega))
     ·cases h
    ·cases h
   ·cases h
  ·unfold B5 at h;split at h
   ·split at h
    ·split at h
     ·simp only[Option.some.injEq,Prod.mk.injEq] at h;obtain ⟨_,rfl,rfl⟩:=h;exact .new _ (by omega)
     ·cases h
    ·cases h
   ·split at h
    ·split at h
     ·simp only[Option.some.injEq,Prod.mk.injEq] at h;obtain ⟨_,rfl,rfl⟩:=h;exact .new _ (by omega)
     ·cases h
    ·cases h
   ·cases h
  ·unfold Z7 at h;split at h
   ·split at h
    ·simp only[Option.some.injEq,Prod.mk.injEq] at h;obtain ⟨_,rfl,rfl⟩:=h;exact .new _ (by omega)
    ·cases h
   ·cases h
  ·unfold vZ at h;split at h
   ·split at h
    ·rename_i hσ;split at h
     ·split at h
      ·split at h
       ·simp only[Option.some.injEq,Prod.mk.injEq] at h;obtain ⟨_,rfl,rfl⟩:=h;exact .set _ (by omega) hσ rfl
       ·cases h
      ·cases h
     ·cases h
    ·cases h
   ·cases h
  ·split at h
   ·split at h
    ·split at h
     ·simp only[Option.some.injEq,Prod.mk.injEq] at h;obtain ⟨_,rfl,rfl⟩:=h;exact .new _ (by omega)
     ·cases h
    ·cases h
   ·cases h
  ·cases h
 ·cases h
def NU:∀ {ps ps':List (Nat×D)} {σ σ1:Nat->Option bH} {n n':Nat},n<=n'->AY σ ps=some (ps',σ1)->uM σ n σ1 n'
 | [],ps',σ,σ1,n,n',hn,h=>by
  simp only[AY] at h;cases h;exact .same hn
 | p::ps,ps',σ,σ1,n,n',hn,h=>by
  obtain ⟨pi,pd⟩:=p;unfold AY at h;split at h
  ·rename_i e;cases e
  ·rename_i i k r e;cases e;split at h
   ·rename_i z rows hk;simp only[aa,Prod.mk.injEq] at h;obtain ⟨⟨_,_⟩,hg,_,rfl⟩:=h;exact (uM.set (n':=n) none (al _) hk rfl).trans (NU hn hg)
   ·cases h
  ·rename_i i d r _ e;cases e;simp only[aa,Prod.mk.injEq] at h;obtain ⟨⟨_,_⟩,hg,_,rfl⟩:=h;exact NU hn hg
def BIE (hh:fQ E) {s:Nat->D} {n:Nat} {op:Op} {d:D} (h:nv P E σ s n op=some (d,σ',n')):uM σ n σ' n':=by
 unfold nv at h;split at h
 ·obtain ⟨h1,rfl⟩:=eX h;cases hz:tz? P _ with
  | none=>rw[hz] at h1;cases h1
  | some z =>
   rw[hz] at h1;simp only[Option.bind_some,aa,Prod.mk.injEq] at h1;obtain ⟨b,_,rfl,rfl⟩:=h1;exact .new _ (by omega)
 ·obtain ⟨h1,rfl⟩:=eX h;simp only[aa,Prod.mk.injEq] at h1;obtain ⟨b,_,rfl,rfl⟩:=h1;exact .new _ (by omega)
 ·obtain ⟨h1,rfl⟩:=eX h;simp only[aa,Prod.mk.injEq] at h1;obtain ⟨σ₂,h2,rfl,rfl⟩:=h1;unfold jP at h2;split at h2
  ·split at h2
   ·rename_i hσ hz;split at h2
    ·split at h2
     ·cases h2;exact .set _ (by omega) hσ rfl
     ·cases h2
    ·cases h2
   ·rename_i hσ hz;split at h2
    ·split at h2
     ·cases h2;exact .set _ (by omega) hσ rfl
     ·cases h2
    ·cases h2
   ·cases h2
  ·cases h2
 ·split at h
  ·rename_i r hr;obtain ⟨h1,rfl⟩:=eX h;cases h1;unfold AKT at hr;split at hr
   ·split at hr
    ·cases hr;exact .new _ (by omega)
    ·cases hr
   ·cases hr;exact .new _ (by omega)
   ·cases hr;exact .new _ (by omega)
   ·cases hr
  ·obtain ⟨h1,rfl⟩:=eX h;unfold AH5 at h1;split at h1
   ·cases h1;exact .new _ (by omega)
   ·cases h1
 ·split at h
  ·obtain ⟨h1,rfl⟩:=eX h;cases h1;exact .new _ (by omega)
  ·split at h
   ·obtain ⟨h1,rfl⟩:=eX h;cases h1;exact .new _ (by omega)
   ·cases h
 ·obtain ⟨h1,rfl⟩:=eX h;unfold SN at h1;split at h1
  ·split at h1
   ·split at h1
    ·cases h1;exact .new _ (by omega)
    ·cases h1
   ·cases h1
  ·cases h1
 ·split at h
  ·rename_i hgv;split at h
   ·obtain ⟨h1,rfl⟩:=eX h;cases h1;exact (NU (al _) hgv).trans (.new _ (by omega))
   ·cases h
  ·cases h
 ·obtain ⟨h1,rfl⟩:=eX h;simp only[aa,Prod.mk.injEq] at h1;obtain ⟨σ₂,h2,rfl,rfl⟩:=h1;unfold AB0 at h2;split at h2
  ·split at h2
   ·split at h2
    ·rename_i hσ;split at h2
     ·cases h2;exact .set _ (by omega) hσ rfl
     ·cases h2
    ·cases h2
   ·cases h2
  ·cases h2
 ·obtain ⟨h1,rfl⟩:=eX h;simp only[aa,Prod.mk.injEq] at h1;obtain ⟨σ₂,h2,rfl,rfl⟩:=h1;unfold AB0 at h2;split at h2
  ·split at h2
   ·split at h2
    ·rename_i hσ;split at h2
     ·cases h2;exact .set _ (by omega) hσ rfl
     ·cases h2
    ·cases h2
   ·cases h2
  ·cases h2
 ·obtain ⟨h1,rfl⟩:=eX h;unfold AKP at h1;split at h1
  ·split at h1
   ·split at h1
    ·rename_i hσ;split at h1
     ·cases h1;exact .set _ (by omega) hσ rfl
     ·cases h1;exact .set _ (by omega) hσ rfl
     ·cases h1
    ·cases h1
   ·cases h1
  ·cases h1
 ·obtain ⟨h1,rfl⟩:=eX h;simp only[aa,Prod.mk.injEq] at h1;obtain ⟨σ₂,h2,rfl,rfl⟩:=h1;unfold AKU at h2;split at h2
  ·split at h2
   ·rename_i hσ;split at h2
    ·cases h2;exact .set _ (by omega) hσ rfl
    ·cases h2
   ·cases h2
  ·cases h2
 ·obtain ⟨h1,rfl⟩:=eX h;simp only[aa,Prod.mk.injEq] at h1;obtain ⟨_,_,_,rfl⟩:=h1;exact .same (by omega)
 ·obtain ⟨h1,rfl⟩:=eX h;unfold SS at h1;split at h1
  ·split at h1
   ·rename_i hσ;split at h1
    ·cases h1;exact .set _ (by omega) hσ rfl
    ·cases h1;exact .same (by omega)
   ·cases h1
  ·cases h1
 ·split at h
  ·obtain ⟨h1,rfl⟩:=eX h;unfold iV at h1;split at h1
   ·split at h1
    ·split at h1
     ·split at h1
      ·split at h1
       ·split at h1
        ·split at h1
         ·cases h1;exact .new _ (by omega)
         ·cases h1
        ·split at h1
         ·cases h1;exact .same (by omega)
         ·split at h1
          ·cases h1;exact .new _ (by omega)
          ·cases h1
        ·cases h1
       ·split at h1
        ·rename_i hσ;split at h1
         ·cases h1;exact (uM.set (n':=n) none (al _) hσ rfl).trans (.new _ (by omega))
         ·cases h1
        ·cases h1
       ·cases h1
      ·cases h1
     ·cases h1
    ·cases h1
   ·unfold uP at h1;split at h1
    ·split at h1
     ·split at h1
      ·split at h1
       ·split at h1
        ·rename_i hσ;split at h1
         ·cases h1;exact (uM.set (n':=n) none (al _) hσ rfl).trans (.new _ (by omega))
         ·cases h1
        ·cases h1
       ·split at h1
        ·split at h1
         ·cases h1;exact .same (by omega)
         ·split at h1
          ·cases h1;exact .same (by omega)
          ·cases h1
        ·cases h1
       ·cases h1
      ·cases h1
     ·cases h1
    ·cases h1
  ·unfold ZB at h;split at h
   ·rename_i r hcf;cases h;exact AWS hh hcf
   ·simp only[aa,Prod.mk.injEq] at h;obtain ⟨_,_,_,rfl,rfl⟩:=h;exact .same (al _)
  ·obtain ⟨h1,rfl⟩:=eX h;unfold AJX at h1;split at h1
   case h_2=>cases h1
   split at h1
   case h_2=>cases h1
   split at h1
   case h_2=>cases h1
   rename_i hσ;split at h1
   ·cases h1;exact .set _ (by omega) hσ rfl
   ·cases h1
  ·cases h
 ·cases h
end
section
variable (C : Combs) (P : Program) (E : Env) (nt : Nat)
def splitK (ops:Array Oper) (o:Oper) (st:St) (K:St->Prop):Prop:=match o.guard with
 | none=>K st
 | some (j,_)=>match (ops[j]?).bind (·.dst) with
  | none=>K st
  | some t=>match st.s t with
   | .p (.v (.bool b))=>aC b (K ⟨bZ st.s t (.p (.v (.bool true))),st.σ,st.n⟩) (K ⟨bZ st.s t (.p (.v (.bool false))),st.σ,st.n⟩)
   | _=>K st
def HE (st:St) (dst:Option Tmp) (d:D) (σ':Nat->Option bH) (n':Nat) (K:St->Prop):Prop:=match rA nt st dst d σ' n' with
 | some st'=>K st'
 | none=>C.bad 201
def A8 (ops:Array Oper) (o:Oper) (st:St) (K:St->Prop):Prop :=
 match fJ ops st.s o with
 | some true=>match dO E o.op with
  | true=>qvS C P E st.n st.σ st.s (cB true st.s) o.op λd=>HE C nt st o.dst d st.σ st.n K
  | false=>nvS C P E st.σ (cB true st.s) st.n o.op λd σ' n'=>HE C nt st o.dst d σ' n' K
 | some false=>HE C nt st o.dst (.p (.v undef)) st.σ st.n K
 | none=>C.bad 202
end
def BI3 (A:Nat->Bool) (st st':St):Prop:=∀ i,A i=false->st'.s i=st.s i
structure Fr (A:Nat->Bool) (st st':St):Prop where
 s:BI3 A st st'
 b:uM st.σ st.n st'.σ st'.n
def Fr.refl (A:Nat->Bool) (st:St):Fr A st st:=⟨λ_ _=>rfl,uM.refl _ _⟩
variable {A:Nat->Bool}{st st':St}
def Fr.trans {st'':St} (h:Fr A st st') (h':Fr A st' st''):Fr A st st'':=⟨λi hi=>(h'.s i hi).trans (h.s i hi),h.b.trans h'.b⟩
def Fr.mono {B:Nat->Bool} (h:Fr A st st') (hab:∀ i,B i=false->A i=false):Fr B st st':=⟨λi hi=>h.s i (hab i hi),h.b⟩
section
variable {P : Program} {E : Env} {nt : Nat} {ops : Array Oper}
def r7 {o:Oper} {K:St->Prop} (h:splitK ops o st K):K st:=by
 unfold splitK at h;split at h
 ·exact h
 ·split at h
  ·exact h
  ·rename_i t ht;split at h
   ·rename_i b hb;have key:∀ c,b=c->(⟨bZ st.s t (.p (.v (.bool c))),st.σ,st.n⟩:St)=st:=by
     intro c hc;subst hc;have:bZ st.s t (.p (.v (.bool b)))=st.s:=by
      funext i
      by_cases e:i=t
      ·subst e;rw[fB,hb]
      ·rw[bL _ _ e]
     rw[this]
    cases b with
    | true=>rw[<-key true rfl];exact h
    | false=>rw[<-key false rfl];exact h
   ·exact h
variable {dst:Option Tmp}
def iL {d:D} {K:St->Prop} (h:HE oC nt st dst d σ' n' K):∃ st',rA nt st dst d σ' n'=some st'/\K st':=by
 unfold HE at h;split at h
 ·exact ⟨_,‹_›,h⟩
 ·exact h.elim
def jB {o:Oper} {K:St->Prop} (h:A8 oC P E nt ops o st K):∃ st',eV P E nt ops o st=some st'/\K st':=by
 unfold A8 at h;unfold eV;split at h
 ·rename_i hg;split at h
  ·rename_i hq;obtain ⟨d,h1,h2⟩:=A1L h;obtain ⟨st',h3,h4⟩:=iL h2;exact ⟨st',by simp only[hq,if_true,gM,hg,h1,h3],h4⟩
  ·rename_i hq;obtain ⟨d,σ',n',h1,h2⟩:=A0U h;obtain ⟨st',h3,h4⟩:=iL h2;exact ⟨st',by simp only[hq,Bool.false_eq_true,if_false,hg,h1,h3],h4⟩
 ·rename_i hg;obtain ⟨st',h3,h4⟩:=iL h;refine ⟨st',?_,h4⟩;by_cases hq:dO E o.op=true
  ·simp only[hq,if_true,gM,hg,h3]
  ·simp only[hq,Bool.false_eq_true,if_false,hg,h3]
 ·exact h.elim
def oH {d:D} (h:rA nt st dst d σ' n'=some st') (hA:∀ t,dst=some t->A t=true) (hf:uM st.σ st.n σ' n'):Fr A st st':=by
 obtain ⟨_,rfl⟩:=rX h;refine ⟨λi hi=>?_,hf⟩;unfold rC;cases dst with
 | none=>rfl
 | some t=>exact bL _ _ λe=>by subst e;rw[hA _ rfl] at hi;cases hi
def lG (hh:fQ E) {o:Oper} (h:eV P E nt ops o st=some st') (hA:∀ t,o.dst=some t->A t=true):Fr A st st':=by
 unfold eV at h;split at h
 ·split at h
  ·exact oH h hA (uM.refl _ _)
  ·cases h
 ·split at h
  ·split at h
   ·rename_i d σ' n' hn;exact oH h hA (BIE hh hn)
   ·cases h
  ·exact oH h hA (uM.refl _ _)
  ·cases h
end
end Go.Pv
