/-
  The symbolic executor, part c: operations that write or make memory; a whole region.
-/
import Derived.Test.YtepoplfbgaoggaaGreatDoorOnekb
set_option linter.defProp false
set_option linter.unusedSimpArgs false
namespace Go.Pv
open Go Go.RowKit
abbrev KN:=D->(Nat->Option bL)->Nat->Prop
section
variable (C : Combs) (P : Program) (E : Env)
def BJV (c:Nat) (x:Option (D×(Nat->Option bL)×Nat)) (K:KN):Prop:=match x with
 | some (d,σ',n')=>K d σ' n'
 | none=>C.bad c
def AT6 (σ:Nat->Option bL) (n:Nat) (t:TypeId) (a v:D) (K:KN):Prop :=
 match a with
 | .ptr k i j=>match σ k with
  | some (.arr ro za rows)=>match ro,tsz? P t,qU v.cells with
   | false,some z,some ts=>match decide (0<z)&&ts.length == z&&ts.all T.leaf with
    | true=>C.row rows i λr=>C.PW (decide (j+z<=r.length)) (K (.p (.v undef)) (cJ σ k (some (.arr false za (rows.set i (b6 r j ts))))) (n+1))
    | false=>C.bad 101
   | _,_,_=>C.bad 102
  | _=>BJV C 103 (one n ((lV P σ t a v).map λσ'=>(.p (.v undef),σ'))) K
 | _=>C.bad 104
def ACX (a b:List (List T)):List (List T):=a++b
def ACL (σ:Nat->Option bL) (n:Nat) (t u:TypeId) (s x:D) (K:KN):Prop :=
 match decide (t=u),pM P t with
 | true,some e =>
  match tsz? P e,tby? P e,tz? P e,AEZ σ x with
  | some z,some by_,some zv,some xs =>
   match decide (0<z)&&zv.cells.size == z&&zv.cells.all Value.oneCell' with
   | true=>match s with
    | .p st=>match gP st with
     | some (full,[])=>C.PW (iD z xs&&full&&decide (xs.length*by_<=140737488355328)&&decide (xs.length<=140737488355328)) (K (.own n) (cJ σ n (some (.arr false z xs))) (n+1))
     | some (full,r::rows)=>aE xs.isEmpty (K (.p st) σ (n+1)) (C.PW (full&&iD z (r::rows)&&iD z xs&&decide (((r::rows).length+xs.length)*by_<=140737488355328)&&decide ((r::rows).length+xs.length<=140737488355328)) (K (.own n) (cJ σ n (some (.arr false z (ACX (r::rows) xs)))) (n+1)))
     | none=>C.bad 111
    | .own k₀=>match σ k₀ with
     | some (.arr ro z' rs)=>match ro with
      | false=>C.PW (decide (z'=z)&&iD z xs&&decide ((rs.length+xs.length)*by_<=140737488355328)&&decide (rs.length+xs.length<=140737488355328)) (K (.own n) (cJ (cJ σ k₀ none) n (some (.arr false z (rs++xs)))) (n+1))
      | true=>C.bad 112
     | _=>C.bad 113
    | _=>C.bad 114
   | false=>C.bad 115
  | _,_,_,_=>C.bad 116
 | _,_=>C.bad 117
def BBU (σ:Nat->Option bL) (n:Nat) (t:TypeId) (len cap:D) (K:KN):Prop :=
 match pM P t with
 | some e =>
  match tsz? P e,tby? P e,tz? P e,len,cap with
  | some z,some by_,some zv,.p (.v (.int _ a)),.p (.v (.int _ b)) =>
   match decide (0<z)&&zv.cells.size == z&&zv.cells.all Value.oneCell' with
   | true=>C.PW ((decide (a=b)||decide (a=0))&&decide (0<=b)&&decide (b*by_<=140737488355328)&&decide (b<=140737488355328)) (K (.own n) (cJ σ n (some (.arr false z (List.replicate a.toNat (zv.cells.toList.map .v))))) (n+1))
   | false=>C.bad 121
  | _,_,_,_,_=>C.bad 122
 | none=>C.bad 123
def BOP (σ:Nat->Option bL) (n:Nat) (t:TypeId) (x i v:D) (K:KN):Prop :=
 match P.underlying t with
 | some (.map kt _) =>
  match C1 P kt,i,x with
  | some kd,.p (.v k),.map m =>
   match L8 kd k,σ m with
   | true,some (.map ro es)=>match ro with
    | false=>C.opt _ (findD kd k es 0) λr=>K (.p (.v undef)) (cJ σ m (some (.map false (gB es r k v)))) (n+1)
    | true=>C.bad 131
   | _,_=>C.bad 132
  | _,_,_=>C.bad 133
 | _=>C.bad 134
def BB5 (σ:Nat->Option bL) (n:Nat) (isString:Bool) (d:D) (K:KN):Prop :=
 match isString,d with
 | true,.it k=>match σ k with
  | some (.mL s pos)=>aE (decide (pos<s.size)) (K (.p (.v (.tuple #[.bool true,.int .i64 pos,.int .i32 (Utf8.decode s pos).1]))) (cJ σ k (some (.mL s (pos+(Utf8.decode s pos).2)))) (n+1)) (K (.p (.v (.tuple #[.bool false]))) σ (n+1))
  | _=>C.bad 141
 | _,_=>C.bad 142
def A8G (fid:FuncId):Option Sy:=match P.funcs[fid]? with
 | some fn=>match fn.resultTypes.toList with
  | [t]=>match pM P t with
   | some e=>AT9 P e
   | none=>none
  | _=>none
 | none=>none
def BLG (z:Nat) (g:List (List T)->List T->Option (List (List T))) (o:Option Sy) (σ:Nat->Option bL) (n:Nat) (args:List D) (K:KN):Prop :=
 match o,args with
 | some r,.own k::rest=>match σ k,qU rest with
  | some (.arr ro z' rows),some ts=>match ro,decide (z'=z)&&decide (r.w=z) with
   | false,true=>C.fresh r (g rows ts) λl=>K (.own n) (cJ (cJ σ k none) n (some (.arr false r.w (l.map r.enc)))) (n+1)
   | _,_=>C.bad 165
  | _,_=>C.bad 166
 | _,_=>C.bad 167
def BRX (z y:Nat) (σ:Nat->Option bL) (n:Nat) (args:List D) (K:KN):Prop :=
 match args with
 | [.own k]=>match σ k with
  | some (.arr _ z' rows)=>match decide (z'=z) with
   | true=>C.PW (decide (rows.length*y<=140737488355328)&&decide (rows.length<=140737488355328)) (K (.own n) (cJ σ n (some (.arr false z rows))) (n+1))
   | false=>C.bad 168
  | _=>C.bad 169
 | [.p t]=>match gP t with
  | some (_,rows)=>C.PW ((rows.all λr=>decide (r.length=z))&&decide (rows.length*y<=140737488355328)&&decide (rows.length<=140737488355328)) (K (.own n) (cJ σ n (some (.arr false z rows))) (n+1))
  | none=>C.bad 170
 | _=>C.bad 171
def BBO:Sy->Nat->Option Nat
 | .pr a b,c=>match Nat.blt c a.w with
  | true=>BBO a c
  | false=>BBO b (c-a.w)
 | .li r,0=>some r.w
 | _,_=>none
def BLO (c:Nat) (g:List T->Option T) (fid:FuncId) (σ:Nat->Option bL) (n:Nat) (args:List D) (K:KN):Prop :=
 match BLS P fid,qU args with
 | some [(true,sy)],some ts=>match BBO sy c with
  | some z=>C.call [(true,sy)] (g ts) λy=>match (sy.enc y)[c]? with
   | some (.sl _ rows)=>C.PW (!rows.isEmpty&&iD z rows) (K (.agg (((sy.enc y).map D.p).set c (.own n))) (cJ σ n (some (.arr false z rows))) (n+1))
   | _=>C.bad 175
  | none=>C.bad 176
 | _,_=>C.bad 177
def AQS (σ:Nat->Option bL) (n:Nat) (f:D) (args:List D) (K:KN):Prop :=
 match lC f with
 | some (fid,a,b)=>match E fid with
  | some (.grow z g)=>BLG C z g (A8G P fid) σ n (a++args++b) K
  | some (.dup z y)=>BRX C z y σ n (a++args++b) K
  | some (.part c g)=>BLO C P c g fid σ n (a++args++b) K
  | _=>match E fid,A8G P fid,qU (a++args++b) with
   | some (.fresh g),some r,some ts=>C.fresh r (g ts) λl=>aE l.isEmpty (K (.p (.sl false [])) σ (n+1)) (K (.own n) (cJ σ n (some (.arr false r.w (l.map r.enc)))) (n+1))
   | _,_,_=>C.bad 151
 | none=>C.bad 152
def nvS (σ:Nat->Option bL) (s:Nat->D) (n:Nat) (op:Op) (K:KN):Prop :=
 match op with
 | .store t a v=>AT6 C P σ n t (ev s a) (ev s v) K
 | .makeSlice t l c=>BBU C P σ n t (ev s l) (ev s c) K
 | .mapUpdate t m i v=>BOP C P σ n t (ev s m) (ev s i) (ev s v) K
 | .next it isString=>BB5 C σ n isString (ev s it) K
 | .call c =>
  match c.callee,c.args.toList,c.argTypes.toList with
  | .builtin .append,[x,y],[t,u]=>ACL C P σ n t u (ev s x) (ev s y) K
  | .value f,as,_=>AQS C P E σ n (ev s f) (as.map (ev s)) K
  | _,_,_=>C.bad 161
 | op=>BJV C 162 (nv P E σ s n op) K
end
section
variable {P : Program} {E : Env}
def AAH {c:Nat} {x:Option (D×(Nat->Option bL)×Nat)} {K:KN} (h:BJV tE c x K):∃ d σ' n',x=some (d,σ',n')/\K d σ' n':=by
 unfold BJV at h;split at h
 ·exact ⟨_,_,_,rfl,h⟩
 ·exact h.elim
variable {σ:Nat->Option bL}
def AM4 {n:Nat} {t:TypeId} {a v:D} {K:KN} (h:AT6 tE P σ n t a v K):∃ d σ' n',one n ((lV P σ t a v).map λσ'=>(D.p (.v undef),σ'))=some (d,σ',n')/\K d σ' n':=by
 unfold AT6 at h;split at h
 ·rename_i k i j;split at h
  ·rename_i ro za rows hσ;split at h
   ·rename_i z ts hz hts;split at h
    ·rename_i hc;obtain ⟨r,hr,hb,hk⟩:=h;refine ⟨_,_,_,?_,hk⟩;simp only[one,lV,hσ,hz,hr,hts];simp_all
    ·exact h.elim
   ·exact h.elim
  ·exact AAH h
 ·exact h.elim
def ACN {n:Nat} {t u:TypeId} {s x:D} {K:KN} (h:ACL tE P σ n t u s x K):∃ d σ' n',one n (kC P σ n t u s x)=some (d,σ',n')/\K d σ' n':=by
 unfold ACL at h;split at h
 ·rename_i e htu he;have htu:t=u:=of_decide_eq_true htu;split at h
  ·rename_i z by_ zv xs hz hby hzv hxs;split at h
   ·rename_i hc;simp only[ac,ah,beq_iff_eq] at hc;split at h
    ·split at h
     ·obtain ⟨hb,hk⟩:=h;simp only[ac,ah] at hb;refine ⟨_,_,_,?_,hk⟩;simp only[one,kC,if_pos htu,he,hz,hby,hzv,hxs];rw[if_pos ⟨hc.1.1,hc.1.2,hc.2,hb.1.1.1⟩];simp_all
     ·rename_i full r rows hrow;rw[wN] at h;cases xs with
      | nil =>
       refine ⟨_,_,_,?_,h.1 rfl⟩;simp only[one,kC,if_pos htu,he,hz,hby,hzv,hxs];rw[if_pos ⟨hc.1.1,hc.1.2,hc.2,rfl⟩];simp_all
      | cons x0 xs =>
       obtain ⟨hb,hk⟩:=h.2 rfl;simp only[ac,ah] at hb;refine ⟨_,_,_,?_,hk⟩;simp only[one,kC,if_pos htu,he,hz,hby,hzv,hxs];rw[if_pos ⟨hc.1.1,hc.1.2,hc.2,hb.1.1.2⟩];simp only[hrow];rw[if_pos ⟨hb.1.1.1.1,hb.1.1.1.2,hb.1.2,hb.2⟩];rfl
     ·exact h.elim
    ·split at h
     ·split at h
      ·obtain ⟨hb,hk⟩:=h;simp only[ac,ah] at hb;refine ⟨_,_,_,?_,hk⟩;simp only[one,kC,if_pos htu,he,hz,hby,hzv,hxs];rw[if_pos ⟨hc.1.1,hc.1.2,hc.2,hb.1.1.2⟩];simp_all
      ·exact h.elim
     ·exact h.elim
    ·exact h.elim
   ·exact h.elim
  ·exact h.elim
 ·exact h.elim
def ARZ {n:Nat} {t:TypeId} {a b:D} {K:KN} (h:BBU tE P σ n t a b K):∃ d σ' n',one n (Z3 P σ n t a b)=some (d,σ',n')/\K d σ' n':=by
 unfold BBU at h;split at h
 ·rename_i e he;split at h
  ·rename_i z by_ zv k1 x k2 y hz hby hzv;split at h
   ·rename_i hc;simp only[ac,ah,beq_iff_eq] at hc;obtain ⟨hb,hk⟩:=h;simp only[ac,Bool.or_eq_true,ah] at hb;refine ⟨_,_,_,?_,hk⟩;simp only[one,Z3,he,hz,hby,hzv];rw[if_pos ⟨hb.1.1.1,hb.1.1.2,hb.1.2,hb.2,hc.1.1,hc.1.2,hc.2⟩];rfl
   ·exact h.elim
  ·exact h.elim
 ·exact h.elim
def A12 {n:Nat} {t:TypeId} {x i v:D} {K:KN} (h:BOP tE P σ n t x i v K):∃ d σ' n',one n ((A11 P σ t x i v).map λσ'=>(D.p (.v undef),σ'))=some (d,σ',n')/\K d σ' n':=by
 unfold BOP at h;split at h
 ·rename_i kt et hu;split at h
  ·rename_i kd k m hk;split at h
   ·rename_i ro es hkey hσ;split at h
    ·obtain ⟨r,hr,hk'⟩:=h;refine ⟨_,_,_,?_,hk'⟩;simp only[one,A11,hu,hk,hkey,hσ,hr];rfl
    ·exact h.elim
   ·exact h.elim
  ·exact h.elim
 ·exact h.elim
def AR1 {n:Nat} {b:Bool} {x:D} {K:KN} (h:BB5 tE σ n b x K):∃ d σ' n',one n (Z7 σ b x)=some (d,σ',n')/\K d σ' n':=by
 unfold BB5 at h;split at h
 ·split at h
  ·rename_i s pos hσ;rw[wN] at h;by_cases hp:pos<s.size
   ·refine ⟨_,_,_,?_,h.1 (by simpa using hp)⟩;simp only[one,Z7,hσ];simp_all
   ·refine ⟨_,_,_,?_,h.2 (by simpa using hp)⟩;simp only[one,Z7,hσ];simp_all
  ·exact h.elim
 ·exact h.elim
def AJE {n:Nat} {f:D} {args:List D} {K:KN} (h:AQS tE P E σ n f args K):∃ d σ' n',u9 E σ n f args=some (d,σ',n')/\K d σ' n':=by
 unfold AQS at h;split at h
 ·rename_i fid a b hc;split at h
  ·rename_i z g hE;unfold BLG at h;split at h
   ·rename_i r k rest hr hargs;split at h
    ·rename_i ro z' rows ts hσ hts;split at h
     ·rename_i hz;obtain ⟨l,h1,h2⟩:=h;rw[ac] at hz;have hw:r.w=z:=of_decide_eq_true hz.2;rw[hw] at h2;refine ⟨_,_,_,?_,h2⟩;simp only[u9,hc,hE,U0,oH,hargs,hσ,hts,hz.1,h1,Option.map_some]
     ·exact h.elim
    ·exact h.elim
   ·exact h.elim
  ·rename_i z g hE;unfold BRX at h;split at h
   ·rename_i k hargs;split at h
    ·rename_i ro z' rows hσ;split at h
     ·rename_i hz;obtain ⟨h1,h2⟩:=h;refine ⟨_,_,_,?_,h2⟩;rw[ac] at h1;simp only[u9,hc,hE,U0,HK,hargs,hσ,hz,h1.1,h1.2,Bool.and_true]
     ·exact h.elim
    ·exact h.elim
   ·rename_i t hargs;split at h
    ·rename_i full rows hr;obtain ⟨h1,h2⟩:=h;refine ⟨_,_,_,?_,h2⟩;simp only[u9,hc,hE,U0,HK,hargs,hr,h1]
    ·exact h.elim
   ·exact h.elim
  ·rename_i c g hE;unfold BLO at h;split at h
   ·rename_i sy ts hsh hts;split at h
    ·rename_i z hz;obtain ⟨y,hg,h⟩:=h;split at h
     ·rename_i fl rows hcc;obtain ⟨h1,h2⟩:=h;refine ⟨_,_,_,?_,h2⟩;rw[ac] at h1;have hg':g ts=some (.agg (sy.enc y)):=hg;cases rows with
      | nil=>cases h1.1
      | cons r rows =>
       have hr:r.length=z:=by
        simp_all
       subst hr;simp only[u9,hc,hE,hts,hg',hcc]
     ·exact h.elim
    ·exact h.elim
   ·exact h.elim
  ·split at h
   ·rename_i g r ts hE hr hts;obtain ⟨l,h1,h2⟩:=h;rw[wN] at h2;cases l with
    | nil =>
     refine ⟨_,_,_,?_,h2.1 rfl⟩;simp only[u9,hc,hE,hts,h1];rfl
    | cons x l =>
     refine ⟨_,_,_,?_,h2.2 rfl⟩;simp only[u9,hc,hE,hts,h1,List.map_cons,Sy.dV]
   ·exact h.elim
 ·exact h.elim
def BB9 {s:Nat->D} {n:Nat} {op:Op} {K:KN} (h:nvS tE P E σ s n op K):∃ d σ' n',nv P E σ s n op=some (d,σ',n')/\K d σ' n':=by
 unfold nvS at h;split at h
 ·exact AM4 h
 ·exact ARZ h
 ·exact A12 h
 ·exact AR1 h
 ·split at h
  ·rename_i x y t u hc ha hat;obtain ⟨d,σ',n',h1,h2⟩:=ACN h;refine ⟨d,σ',n',?_,h2⟩;simp only[nv,hc,ha,hat];exact h1
  ·rename_i f hc;obtain ⟨d,σ',n',h1,h2⟩:=AJE h;refine ⟨d,σ',n',?_,h2⟩;simp only[nv,hc,AIE,h1]
  ·exact h.elim
 ·exact AAH h
end
def D9 (σ:Nat->Option bL) (n:Nat) (σ':Nat->Option bL) (n':Nat):Prop:=n<=n'/\∀ k x,k<n->σ k=some x->iN x=false->σ' k=some x
def D9.refl (σ:Nat->Option bL) (n:Nat):D9 σ n σ n:=⟨al _,λ_ _ _ h _=>h⟩
variable {σ σ':Nat->Option bL}{n':Nat}
def D9.trans {σ'':Nat->Option bL} {n n'':Nat} (h:D9 σ n σ' n') (h':D9 σ' n' σ'' n''):D9 σ n σ'' n'' :=
 ⟨Nat.le_trans h.1 h'.1,λk x hk hx hw=>h'.2 k x (Nat.lt_of_lt_of_le hk h.1) (h.2 k x hk hx hw) hw⟩
def D9.new {n:Nat} (x:Option bL) (h:n<=n'):D9 σ n (cJ σ n x) n':=⟨h,λk y hk hy _=>by rw[bU _ _ (by omega)];exact hy⟩
def D9.same {n:Nat} (h:n<=n'):D9 σ n σ n':=⟨h,λ_ _ _ h _=>h⟩
def D9.set {n m:Nat} {x₀:bL} (x:Option bL) (h:n<=n') (hm:σ m=some x₀) (hw:iN x₀=true):D9 σ n (cJ σ m x) n':=⟨h,λk y hk hy hy'=>by
 by_cases e:k=m
 ·simp_all
 ·rw[bU _ _ e];exact hy⟩
def iH (E:Env):Prop:=∀ f g,E f≠some (.heap g)
section
variable {P : Program} {E : Env}
def j4 {n:Nat} {x:Option (D×(Nat->Option bL))} {d:D} (h:one n x=some (d,σ',n')):x=some (d,σ')/\n'=n+1:=by
 unfold one at h;cases x with
 | none=>cases h
 | some y=>obtain ⟨a,b⟩:=y;simp only[Option.map_some,Option.some.injEq,Prod.mk.injEq] at h;obtain ⟨rfl,rfl,rfl⟩:=h;exact ⟨rfl,rfl⟩
def A7S (hh:iH E) {n:Nat} {c:D} {args:List D} {d:D} (h:u9 E σ n c args=some (d,σ',n')):D9 σ n σ' n':=by
 unfold u9 at h;split at h
 ·split at h
  ·split at h
   ·split at h
    ·split at h
     ·cases h;exact .same (by omega)
     ·cases h;exact .new _ (by omega)
    ·cases h
   ·split at h
    ·split at h
     ·split at h
      ·cases h;exact .new _ (by omega)
      ·cases h
     ·cases h
    ·cases h
  ·split at h
   ·split at h
    ·split at h
     ·obtain ⟨_,rfl,rfl⟩:=h;exact .new _ (by omega)
     ·cases h
    ·cases h
   ·cases h
  ·rename_i hg;split at h
   ·rename_i g hx;unfold U0 at hx;split at hx
    ·exact absurd hg (hh _ _)
    ·cases hx;unfold oH at h;split at h
     ·split at h
      ·rename_i hσ;split at h
       ·simp only[aa,Prod.mk.injEq] at h;obtain ⟨_,_,_,rfl,rfl⟩:=h;exact (D9.set (n':=n) none (al _) hσ rfl).trans (.new _ (by omega))
       ·cases h
      ·cases h
     ·cases h
    ·cases hx;unfold HK at h;split at h
     ·split at h
      ·split at h
       ·obtain ⟨_,rfl,rfl⟩:=h;exact .new _ (by omega)
       ·cases h
      ·cases h
     ·split at h
      ·split at h
       ·obtain ⟨_,rfl,rfl⟩:=h;exact .new _ (by omega)
       ·cases h
      ·cases h
     ·cases h
    ·cases hx
   ·cases h
  ·cases h
 ·cases h
def BSK (hh:iH E) {s:Nat->D} {n:Nat} {op:Op} {d:D} (h:nv P E σ s n op=some (d,σ',n')):D9 σ n σ' n':=by
 unfold nv at h;split at h
 ·obtain ⟨h1,rfl⟩:=j4 h;cases hz:tz? P _ with
  | none=>rw[hz] at h1;cases h1
  | some z =>
   rw[hz] at h1;simp only[Option.bind_some,aa,Prod.mk.injEq] at h1;obtain ⟨b,_,rfl,rfl⟩:=h1;exact .new _ (by omega)
 ·obtain ⟨h1,rfl⟩:=j4 h;simp only[aa,Prod.mk.injEq] at h1;obtain ⟨b,_,rfl,rfl⟩:=h1;exact .new _ (by omega)
 ·obtain ⟨h1,rfl⟩:=j4 h;simp only[aa,Prod.mk.injEq] at h1;obtain ⟨σ₂,h2,rfl,rfl⟩:=h1;unfold lV at h2;split at h2
  ·split at h2
   ·rename_i hσ hz;split at h2
    ·split at h2
     ·cases h2;exact .set _ (by omega) hσ rfl
     ·cases h2
    ·cases h2
   ·rename_i hσ hz;split at h2
    ·split at h2
     ·cases h2;exact .set _ (by omega) hσ rfl
     ·cases h2
    ·cases h2
   ·cases h2
  ·cases h2
 ·split at h
  ·rename_i r hr;obtain ⟨h1,rfl⟩:=j4 h;cases h1;unfold AVH at hr;split at hr
   ·cases hr;exact .new _ (by omega)
   ·cases hr
  ·obtain ⟨h1,rfl⟩:=j4 h;unfold ASZ at h1;split at h1
   ·cases h1;exact .new _ (by omega)
   ·cases h1
 ·split at h
  ·obtain ⟨h1,rfl⟩:=j4 h;cases h1;exact .new _ (by omega)
  ·split at h
   ·obtain ⟨h1,rfl⟩:=j4 h;cases h1;exact .new _ (by omega)
   ·cases h
 ·obtain ⟨h1,rfl⟩:=j4 h;unfold Z3 at h1;split at h1
  ·split at h1
   ·split at h1
    ·cases h1;exact .new _ (by omega)
    ·cases h1
   ·cases h1
  ·cases h1
 ·obtain ⟨h1,rfl⟩:=j4 h;simp only[aa,Prod.mk.injEq] at h1;obtain ⟨σ₂,h2,rfl,rfl⟩:=h1;unfold A11 at h2;split at h2
  ·split at h2
   ·split at h2
    ·rename_i hσ;split at h2
     ·cases h2;exact .set _ (by omega) hσ rfl
     ·cases h2
    ·cases h2
   ·cases h2
  ·cases h2
 ·obtain ⟨h1,rfl⟩:=j4 h;simp only[aa,Prod.mk.injEq] at h1;obtain ⟨_,_,_,rfl⟩:=h1;exact .same (by omega)
 ·obtain ⟨h1,rfl⟩:=j4 h;unfold Z7 at h1;split at h1
  ·split at h1
   ·rename_i hσ;split at h1
    ·cases h1;exact .set _ (by omega) hσ rfl
    ·cases h1;exact .same (by omega)
   ·cases h1
  ·cases h1
 ·split at h
  ·obtain ⟨h1,rfl⟩:=j4 h;unfold kC at h1;split at h1
   ·split at h1
    ·split at h1
     ·split at h1
      ·split at h1
       ·split at h1
        ·split at h1
         ·cases h1;exact .new _ (by omega)
         ·cases h1
        ·split at h1
         ·cases h1;exact .same (by omega)
         ·split at h1
          ·cases h1;exact .new _ (by omega)
          ·cases h1
        ·cases h1
       ·split at h1
        ·rename_i hσ;split at h1
         ·cases h1;exact (D9.set (n':=n) none (al _) hσ rfl).trans (.new _ (by omega))
         ·cases h1
        ·cases h1
       ·cases h1
      ·cases h1
     ·cases h1
    ·cases h1
   ·unfold GY at h1;split at h1
    ·split at h1
     ·split at h1
      ·split at h1
       ·split at h1
        ·rename_i hσ;split at h1
         ·cases h1;exact (D9.set (n':=n) none (al _) hσ rfl).trans (.new _ (by omega))
         ·cases h1
        ·cases h1
       ·cases h1
      ·cases h1
     ·cases h1
    ·cases h1
  ·unfold AIE at h;split at h
   ·rename_i r hcf;cases h;exact A7S hh hcf
   ·simp only[aa,Prod.mk.injEq] at h;obtain ⟨_,_,_,rfl,rfl⟩:=h;exact .same (al _)
  ·cases h
 ·cases h
end
section
variable (C : Combs) (P : Program) (E : Env) (nt : Nat)
def splitK (ops:Array Oper) (o:Oper) (st:St) (K:St->Prop):Prop:=match o.guard with
 | none=>K st
 | some (j,_)=>match (ops[j]?).bind (·.dst) with
  | none=>K st
  | some t=>match st.s t with
   | .p (.v (.bool b))=>aE b (K ⟨cJ st.s t (.p (.v (.bool true))),st.σ,st.n⟩) (K ⟨cJ st.s t (.p (.v (.bool false))),st.σ,st.n⟩)
   | _=>K st
def MW (st:St) (dst:Option Tmp) (d:D) (σ':Nat->Option bL) (n':Nat) (K:St->Prop):Prop:=match wQ nt st dst d σ' n' with
 | some st'=>K st'
 | none=>C.bad 201
def KE (ops:Array Oper) (o:Oper) (st:St) (K:St->Prop):Prop :=
 match iY ops st.s o with
 | some true=>match fC E o.op with
  | true=>qvS C P E st.n st.σ st.s (cN true st.s) o.op λd=>MW C nt st o.dst d st.σ st.n K
  | false=>nvS C P E st.σ (cN true st.s) st.n o.op λd σ' n'=>MW C nt st o.dst d σ' n' K
 | some false=>MW C nt st o.dst (.p (.v undef)) st.σ st.n K
 | none=>C.bad 202
end
def BTB (A:Nat->Bool) (st st':St):Prop:=∀ i,A i=false->st'.s i=st.s i
structure Fr (A:Nat->Bool) (st st':St):Prop where
 s:BTB A st st'
 b:D9 st.σ st.n st'.σ st'.n
def Fr.refl (A:Nat->Bool) (st:St):Fr A st st:=⟨λ_ _=>rfl,D9.refl _ _⟩
variable {A:Nat->Bool}{st st':St}
def Fr.trans {st'':St} (h:Fr A st st') (h':Fr A st' st''):Fr A st st'':=⟨λi hi=>(h'.s i hi).trans (h.s i hi),h.b.trans h'.b⟩
def Fr.mono {B:Nat->Bool} (h:Fr A st st') (hab:∀ i,B i=false->A i=false):Fr B st st':=⟨λi hi=>h.s i (hab i hi),h.b⟩
section
variable {P : Program} {E : Env} {nt : Nat} {ops : Array Oper}
variable {K:St->Prop}
def CF {o:Oper} (h:splitK ops o st K):K st:=by
 unfold splitK at h;split at h
 ·exact h
 ·split at h
  ·exact h
  ·rename_i t ht;split at h
   ·rename_i b hb;have key:∀ c,b=c->(⟨cJ st.s t (.p (.v (.bool c))),st.σ,st.n⟩:St)=st:=by
     intro c hc;subst hc;have:cJ st.s t (.p (.v (.bool b)))=st.s:=by
      funext i
      by_cases e:i=t
      ·simp_all
      ·rw[bU _ _ e]
     rw[this]
    cases b with
    | true=>rw[<-key true rfl];exact h
    | false=>rw[<-key false rfl];exact h
   ·exact h
variable {dst:Option Tmp}
def j6 {d:D} (h:MW tE nt st dst d σ' n' K):∃ st',wQ nt st dst d σ' n'=some st'/\K st':=by
 unfold MW at h;split at h
 ·simp_all
 ·exact h.elim
def kY {o:Oper} (h:KE tE P E nt ops o st K):∃ st',gK P E nt ops o st=some st'/\K st':=by
 unfold KE at h;unfold gK;split at h
 ·rename_i hg;split at h
  ·rename_i hq;obtain ⟨d,h1,h2⟩:=BDL h;obtain ⟨st',h3,h4⟩:=j6 h2;exact ⟨st',by simp only[hq,if_true,iU,hg,h1,h3],h4⟩
  ·obtain ⟨d,σ',n',h1,h2⟩:=BB9 h;obtain ⟨st',h3,h4⟩:=j6 h2;simp_all
 ·rename_i hg;obtain ⟨st',h3,h4⟩:=j6 h;refine ⟨st',?_,h4⟩;by_cases hq:fC E o.op=true
  ·simp only[hq,if_true,iU,hg,h3]
  ·simp_all
 ·exact h.elim
def pC {d:D} (h:wQ nt st dst d σ' n'=some st') (hA:∀ t,dst=some t->A t=true) (hf:D9 st.σ st.n σ' n'):Fr A st st':=by
 obtain ⟨_,rfl⟩:=uC h;refine ⟨λi hi=>?_,hf⟩;cases dst with
 | none=>rfl
 | some t=>exact bU _ _ λe=>by subst e;rw[hA _ rfl] at hi;cases hi
def qF (hh:iH E) {o:Oper} (h:gK P E nt ops o st=some st') (hA:∀ t,o.dst=some t->A t=true):Fr A st st':=by
 unfold gK at h;split at h
 ·split at h
  ·exact pC h hA (D9.refl _ _)
  ·cases h
 ·split at h
  ·split at h
   ·rename_i d σ' n' hn;exact pC h hA (BSK hh hn)
   ·cases h
  ·exact pC h hA (D9.refl _ _)
  ·cases h
end
end Go.Pv
