/-
  The pure evaluator, part h: the operations that leave the boxes alone, all together.
-/
import Derived.Test.YtepoplfbgaoggaaGreatDoorOnewx
import Derived.Laws.BytesArg
import Derived.Laws.MakeOwn
import Derived.Laws.AppendOwn
import Derived.Lib.ConvBytes
set_option linter.defProp false
set_option linter.unusedSimpArgs false
namespace Go.Pv
open Go Go.RowKit
def A1T (P:Program) (σ:Nat->Option bL) (t:TypeId) (d:D):Option D :=
 match P.underlying t with
 | some .string=>match d with
  | .p (.v (.string s))=>some (.p (.v (.int .i64 s.size)))
  | _=>none
 | some (.slice _)=>match d with
  | .p tt=>match gP tt with
   | some (_,rows)=>some (.p (.v (.int .i64 rows.length)))
   | none=>none
  | .own k=>match σ k with
   | some (.arr _ _ rows)=>some (.p (.v (.int .i64 rows.length)))
   | some (.rows _ rs)=>some (.p (.v (.int .i64 rs.length)))
   | _=>none
  | .bs _ _ len=>some (.p (.v (.int .i64 len)))
  | _=>none
 | some (.map _ _)=>match d with
  | .map k=>match σ k with
   | some (.map _ es)=>some (.p (.v (.int .i64 es.length)))
   | _=>none
  | .p (.mp es)=>some (.p (.v (.int .i64 es.length)))
  | _=>none
 | some (.array n _)=>some (.p (.v (.int .i64 n)))
 | _=>none
def mmV (mx:Bool):Value->Value->Option Value
 | .int k x,.int _ y=>some (.int k (if mx then (if x<y then y else x) else (if y<x then y else x)))
 | _,_=>none
def mmD (mx:Bool) (ds:List D):Option D :=
 match ds with
 | .p (.v x)::rest=>(rest.foldlM (λ(x:Value) (d:D)=>match d with | .p (.v y)=>mmV mx x y|_=>none) x).map λv=>.p (.v v)
 | _=>none
def TC:List (List T)->Option (List Int)
 | []=>some []
 | [.v (.int .u8 n)]::r=>(TC r).map (n :: ·)
 | _=>none
def AB:∀ {rows:List (List T)} {xs:List Int},TC rows=some xs->rows=xs.map λn=>[.v (.int .u8 n)]
 | [],xs,h=>by cases h;rfl
 | [.v (.int .u8 n)]::r,xs,h=>by
  simp only[TC,aa] at h;obtain ⟨l,h1,rfl⟩:=h;rw[AB h1];rfl
def AUU (P:Program) (src dst:TypeId) (d:D):Option D :=
 match d with
 | .p (.v (.int _ n)) =>
  match P.underlying src,P.underlying dst with
  | some _,some (.int k)=>some (.p (.v (.int k (k.wrap n))))
  | _,_=>none
 | .p (.v (.string s)) =>
  match P.underlying src,P.underlying dst with
  | some _,some .string=>some (.p (.v (.string s)))
  | _,_=>none
 | .p tt =>
  match gP tt,P.underlying src,P.underlying dst with
  | some (_,rows),some (.slice e),some .string=>match P.underlying e,TC rows with
   | some (.int .u8),some xs=>some (.p (.v (.string (strOfNums xs))))
   | _,_=>none
  | _,_,_=>none
 | _=>none
def AA (s:iII):List (List T):=s.data.toList.map λb=>[.v (.int .u8 (b.toNat:Int))]
def A72 (P:Program) (src dst:TypeId) (d:D):Option D :=
 match d with
 | .p (.v (.string s))=>match P.underlying src,P.underlying dst with
  | some .string,some (.slice e)=>match P.underlying e,decide (s.size<=140737488355328) with
   | some (.int .u8),true=>some (.p (.sl false (AA s)))
   | _,_=>none
  | _,_=>none
 | _=>none
variable {P:Program}{ρ:Nat->Option Loc}{src dst:TypeId}
def AZP {w:World} {own:Nat->Prop} (hown:∀ b,own b->b<w.heap.size) {d r:D} {x:Value} (hx:Rd w own ρ d x) (h:A72 P src dst d=some r) :
  ∃ v w',(convert src dst x).run P w = .ok v w'/\Below w.heap.size w w'/\Rd w' own ρ r v:=by
 unfold A72 at h;split at h
 ·rename_i s;split at h
  ·rename_i e hs hd;split at h
   ·rename_i he hsz;cases h;cases hx with
    | p _ _ hx =>
    cases hx;have hsz:s.size<=140737488355328:=of_decide_eq_true hsz;have hlen:(AA s).length=s.size:=by unfold AA;rw[ae];rfl
    refine ⟨_,_,Go.Lib.run_convert_string_bytes w src dst e s hs hd he,⟨rfl,rfl,rfl,by rw[Go.Lib.bytesWorld_size];omega,λk hk=>Go.Lib.bytesWorld_at_old w e s k hk⟩,.p _ _ ?_⟩;rw[show Value.slice (some ⟨w.heap.size,0,none⟩) s.size (grownCap w s.size 0 e)=Value.slice (some ⟨w.heap.size,0,none⟩) (AA s).length (grownCap w s.size 0 e) by rw[hlen]];refine .sl false _ 1 w.heap.size 0 _ (λi j=>.int .u8 ((s.data.toList.getD i 0).toNat:Int)) (by rw[hlen];exact grownCap_ge ..) (by rw[hlen];exact hsz) (λh=>by cases h) (λh=>by have:=hown _ h;omega) (by rw[Go.Lib.bytesWorld_size];omega) (λr hr=>?_) (by omega) (λi j hi hj=>⟨?_,rfl⟩) (λi j hi hj=>?_)
    ·obtain ⟨b,_,rfl⟩:=List.mem_map.1 hr;rfl
    ·have hj0:j=0:=by omega
     have:=Go.Lib.bytesWorld_cell w e s i (by omega);simp_all
    ·have hi':i<s.data.toList.length:=by simpa [AA] using hi
     have e1:(AA s)[i]=[.v (.int .u8 ((s.data.toList[i]'hi').toNat:Int))]:=by simp only[AA,List.getElem_map]
     have hj0:j=0:=by rw[e1] at hj;simpa using hj
     subst hj0;have e2:(AA s)[i][0] = .v (.int .u8 ((s.data.toList[i]'hi').toNat:Int)):=by simp[e1]
     rw[e2,List.getD_eq_getElem?_getD,List.getElem?_eq_getElem hi'];exact .v _
   ·cases h
  ·cases h
 ·cases h
def BK6 (P:Program) (src dst:TypeId) (d:D):Option D:=match AUU P src dst d with
 | some r=>some r
 | none=>A72 P src dst d
def A73 (P:Program) (σ:Nat->Option bL) (src dst:TypeId) (d:D):Option D :=
 match d with
 | .own k =>
  match σ k,P.underlying src,P.underlying dst with
  | some (.arr _ z rows),some (.slice e),some .string =>
   match P.underlying e,TC rows with
   | some (.int .u8),some xs=>if z=1/\0<rows.length then some (.p (.v (.string (strOfNums xs)))) else none
   | _,_=>none
  | _,_,_=>none
 | d=>AUU P src dst d
def BOO (f:FuncId) (a b:List D):D :=
 match qU a,qU b with
 | some a,some b=>.p (.fn f a b)
 | _,_=>.fn f a b
def U2 (c g:Bool):Bool:=!c||g
@[simp] def BQT (c:Bool):U2 c c=true:=by cases c<;>rfl
@[simp] def BQU (g:Bool):U2 true g=g:=rfl
@[simp] def BOF (g:Bool):U2 false g=true:=rfl
@[simp] def BOG (c:Bool):U2 c true=true:=by cases c<;>rfl
@[simp] def BQQ (a b:Bool):U2 (a&&b) a=true:=by cases a<;>cases b<;>rfl
@[simp] def BQR (a b:Bool):U2 (a&&b) b=true:=by cases a<;>cases b<;>rfl
@[simp] def BOE (a b c:Bool):U2 (a&&b&&c) (a&&b)=true:=by cases a<;>cases b<;>cases c<;>rfl
@[simp] def BQS (a b c:Bool):U2 (a&&b&&c) a=true:=by cases a<;>cases b<;>cases c<;>rfl
def BDJ (cg:Bool) (c a b a' b':D):Option D :=
 match c with
 | .p (.v (.bool t)) =>
  match a,b with
  | .p (.v (.bool x)),.p (.v (.bool y))=>some (.p (.v (.bool (bif t then x else y))))
  | .p (.v (.bool x)),.cond g (.p (.v (.bool y)))=>if U2 (cg && !t) g=true then some (.p (.v (.bool (bif t then x else y)))) else none
  | .cond g (.p (.v (.bool x))),.p (.v (.bool y))=>if U2 (cg&&t) g=true then some (.p (.v (.bool (bif t then x else y)))) else none
  | _,_=>some (if t then a' else b')
 | _=>none
def ncD (d:D):Option D :=
 match d with
 | .ptr .. => some d
 | .p (.ref _)=>some d
 | .fn .. => some d
 | .p (.fn ..)=>some d
 | _=>none
def ACS (P:Program) (op:BinOp) (t:TypeId) (x y:D):Option D :=
 match G7 op with
 | some pos =>
  match BOT P t x y with
  | some b=>some (.p (.v (.bool (b == pos))))
  | none=>match x,y with
   | .p a,.p b =>
    match L7 a&&L7 b with
    | true=>match P.eqGuardType P.depth t,eqT P 20 t a b with
     | false,some r=>some (.p (.v (.bool (if pos=true then r else !r))))
     | _,_=>none
    | false=>AID P op t x y
   | _,_=>AID P op t x y
 | none=>AID P op t x y
def ALG (P:Program) (t:TypeId) (len cap:D):Option D :=
 match pM P t with
 | some e =>
  match tsz? P e,tby? P e,tz? P e,len,cap with
  | some z,some by_,some zv,.p (.v (.int _ a)),.p (.v (.int _ b)) =>
   match decide (a=b)&&decide (0<=b)&&decide (b*by_<=140737488355328)&&decide (b<=140737488355328)&&(decide (0<z)&&zv.cells.size == z&&zv.cells.all Value.oneCell') with
   | true=>some (.p (.sl false (List.replicate a.toNat (zv.cells.toList.map .v))))
   | false=>none
  | _,_,_,_,_=>none
 | none=>none
def BOH {e:TypeId} {z by_:Nat} {zv:Value} (h1:tsz? P e=some z) (h2:tby? P e=some by_) (h3:tz? P e=some zv):∃ i,P.info? e=some i/\i.size=z/\i.bytes=by_/\i.zero=some zv:=by
 simp only[tsz?,aa] at h1;obtain ⟨i,hi,rfl⟩:=h1;simp only[tby?,hi,Option.map_some,Option.some.injEq] at h2;simp only[tz?,hi,Option.bind_some] at h3;simp_all
def A1W {w:World} {own:Nat->Prop} (hown:∀ b,own b->b<w.heap.size) {t:TypeId} {a b r:D} {va vb:Value} (ha:Rd w own ρ a va) (hb:Rd w own ρ b vb) (h:ALG P t a b=some r) :
  ∃ v o,(Instr.makeSlice t va vb).run P w = .ok v (w.alloc o)/\Rd (w.alloc o) own ρ r v:=by
 unfold ALG at h;split at h
 ·rename_i e hel;have hu:=jV hel;split at h
  ·rename_i z by_ zv ka x kb y hz hby hzv;split at h
   ·rename_i hok;simp only[ac,ah,beq_iff_eq] at hok;obtain ⟨⟨⟨⟨hxy,h0⟩,hbytes⟩,hmax⟩,⟨hz0,hzc⟩,hz1⟩:=hok;subst hxy;cases h;cases ha with
    | p _ _ ha =>
    cases ha;cases hb with
    | p _ _ hb =>
    cases hb;obtain ⟨i,hi,hi1,hi2,hi3⟩:=BOH hz hby hzv;have hrun:=run_make (P:=P) w t e i zv hu hi hi3 ka kb x x h0 (Int.le_refl _) (by rw[hi2];rw[Int.mul_comm];omega) (by omega);obtain ⟨c,hc⟩:∃ c,x.toNat=c:=⟨_,rfl⟩
    rw[hc] at hrun;rw[hc];refine ⟨_,_,hrun,.p _ _ ?_⟩;have hnown:¬ own w.heap.size:=λh=>by have:=hown _ h;omega
    by_cases hc0:c=0
    ·subst hc0;exact .dF false _ 0 (λh=>by cases h) (by simp)
    ·have hcell:∀ p,p<c*z->(madeCells zv.cells (c*z))[p]? = some (zv.cells[p % z]'(by rw[hzc];exact Nat.mod_lt _ hz0)):=by
      intro p hp;simp only[madeCells,Array.getElem?_map,Array.getElem?_range,hp,if_true,Option.map_some,Option.some.injEq,hzc];exact getElem!_pos zv.cells _ _
     have hlt:∀ i j,i<c->j<z->i*z+j<c*z:=λi j hi hj=>by
      have:(i+1)*z<=c*z:=Nat.mul_le_mul_right z hi;rw[Nat.add_mul,Nat.one_mul] at this;omega
     have hmod:∀ i j,j<z->(i*z+j) % z=j:=λi j hj=>by rw[Nat.mul_comm,Nat.mul_add_mod,Nat.mod_eq_of_lt hj]
     have hlen:(List.replicate c (zv.cells.toList.map T.v)).length=c:=by simp
     rw[show Value.slice (some ⟨w.heap.size,0,none⟩) c c=Value.slice (some ⟨w.heap.size,0,none⟩) (List.replicate c (zv.cells.toList.map T.v)).length c by rw[hlen]];refine .sl false _ z w.heap.size 0 c (λi j=>zv.cells.getD j undef) (by rw[hlen];exact al _) (by rw[hlen];omega) (λh=>by cases h) hnown (by show w.heap.size<(w.heap.push _).size;simp) (λr hr=>by rw[List.eq_of_mem_replicate hr];simp[hzc]) hz0 (λi j hi hj=>?_) (λi j hi hj=>?_)
     ·refine ⟨?_,?_⟩
      ·simp_all
      ·rw[Array.getD_eq_getD_getElem?,Array.getElem?_eq_getElem (by omega)];exact Array.all_eq_true.1 hz1 _ _
     ·have hrow:(List.replicate c (zv.cells.toList.map T.v))[i]=zv.cells.toList.map T.v:=by simp
      simp only[hrow] at hj ⊢;have hj':j<zv.cells.size:=by simpa using hj
      simp only[List.getElem_map,Array.getElem_toList];rw[Array.getD_eq_getD_getElem?,Array.getElem?_eq_getElem hj'];exact .v _
   ·cases h
  ·cases h
 ·cases h
def qv (P:Program) (E:Env) (n:Nat) (σ:Nat->Option bL) (s₀ s:Nat->D) (cg:Bool) (op:Op):Option D :=
 match op with
 | .move x=>some (ev s x)
 | .assign x=>some (ev s x)
 | .pick c a b=>BDJ cg (ev s c) (ev s₀ a) (ev s₀ b) (ev s a) (ev s b)
 | .build t parts=>APM P t (parts.toList.map λx=>(x.1,ev s x.2))
 | .buildSlice t len parts=>z7 P t len (parts.toList.map λx=>(x.1,ev s x.2))
 | .makeSlice t l c=>ALG P t (ev s l) (ev s c)
 | .load t a=>BL P σ t (ev s a)
 | .binOp op t x y _=>ACS P op t (ev s x) (ev s y)
 | .unOp op _ x=>unD op (ev s x)
 | .convert src dst x=>match E.marked (6000000000+src) with
  | true=>A73 P σ src dst (ev s x)
  | false=>BK6 P src dst (ev s x)
 | .makeFunc (.func f) first cap=>some (BOO f (first.toList.map (ev s)) (cap.toList.map (ev s)))
 | .slice t x lo hi mx=>lU P σ t (ev s x) (lo.map (ev s)) (hi.map (ev s)) (mx.map (ev s))
 | .fieldAddr t x i=>APZ P t (ev s x) i
 | .field t x i=>LO P t (ev s x) i
 | .indexAddr t x i=>dY P σ t (ev s x) (ev s i)
 | .index t x i=>L5 P t (ev s x) (ev s i)
 | .extract x i=>TT (ev s x) i
 | .lookup t x i ok=>zH P σ t (ev s x) (ev s i) ok
 | .nilCheck x=>ncD (ev s x)
 | .call c =>
  match c.callee with
  | .builtin .len=>match c.argTypes.toList,c.args.toList with
   | [t],[x]=>A1T P σ t (ev s x)
   | _,_=>none
  | .builtin .min=>mmD false (c.args.toList.map (ev s))
  | .builtin .max=>mmD true (c.args.toList.map (ev s))
  | .value f=>rY E σ n (ev s f) (c.args.toList.map (ev s))
  | _=>none
 | _=>none
section
variable {cx : Cx} {ρ : Nat -> Option Loc} {σ : Nat -> Option bL} {n : Nat} {w : World}
def BIN (hI:Inv cx ρ σ n w) {t ty:TypeId} {d r:D} {x:Value} (hx:Rd w (bY cx ρ σ) ρ d x) (h:A1T cx.P σ t d=some r):∃ v,(Builtin.len_ #[t] ty #[x]).run cx.P w = .ok v w/\Rd w (bY cx ρ σ) ρ r v:=by
 unfold A1T at h;split at h
 ·rename_i hu;split at h
  ·cases h;cases hx with
   | p _ _ hx =>
   cases hx;exact ⟨_,by simp[Builtin.len_,run_underlying hu];rfl,.p _ _ (.v _)⟩
  ·cases h
 ·rename_i e hu;split at h
  ·split at h
   ·rename_i f rows hr;cases h;cases hx with
    | p _ _ hx =>
    obtain ⟨a,cap,rfl,_⟩:=(oA hx hr).isSlice;exact ⟨_,by simp[Builtin.len_,run_underlying hu];rfl,.p _ _ (.v _)⟩
   ·cases h
  ·rename_i k;have key:∃ rs,(σ k).bind fJ=some rs/\r = .p (.v (.int .i64 rs.length)):=by
    split at h
    ·rename_i ro z rows hk;cases h;exact ⟨bK rows,by rw[hk];rfl,by simp⟩
    ·rename_i ro rs hk;cases h;exact ⟨rs,by rw[hk];rfl,rfl⟩
    ·cases h
   obtain ⟨rs,hk,rfl⟩:=key;cases hx with
   | own _ l hl h0 h1 h2 =>
    rw[hI.qA hk hl];exact ⟨_,by simp[Builtin.len_,run_underlying hu];rfl,.p _ _ (.v _)⟩
   | eW _ l a hl h0 =>
    rw[hI.qA hk hl,show l.L=0 by omega];exact ⟨_,by simp[Builtin.len_,run_underlying hu];rfl,.p _ _ (.v _)⟩
  ·cases h;cases hx with
   | bs=>exact ⟨_,by simp[Builtin.len_,run_underlying hu];rfl,.p _ _ (.v _)⟩
  ·cases h
 ·rename_i kt et hu;split at h
  ·split at h
   ·rename_i _ es hk;cases h;cases hx with
    | map _ l hl =>
    obtain ⟨l',hl',_,o,ho,hb⟩:=hI.loc hk (λ_ _ e=>by cases e);rw[hl] at hl';cases hl';cases hb with
    | rows _ _ _ hr=>simp[fJ] at hr
    | map _ _ ents h1 =>
    refine ⟨_,?_,.p _ _ (.v _)⟩;simp[Builtin.len_,run_underlying hu,getObj,Sem.run,ho,h1];rfl
   ·cases h
  ·cases h;cases hx with
   | p _ _ hx =>
   cases hx with
   | mp es b ents f h1 h2 h3 h4 h5 h6 =>
   refine ⟨_,?_,.p _ _ (.v _)⟩;simp[Builtin.len_,run_underlying hu,getObj,Sem.run,h3,h4];rfl
  ·cases h
 ·rename_i m e hu;cases h;exact ⟨_,by simp[Builtin.len_,run_underlying hu];rfl,.p _ _ (.v _)⟩
 ·cases h
def BOQ {d r:D} {x:Value} (hx:Rd w (bY cx ρ σ) ρ d x) (h:ncD d=some r):d=r/\((∃ a,x = .pointer (some a))\/∃ f a b,x = .func (.func f) a b):=by
 unfold ncD at h;split at h
 ·cases h;cases hx with
  | ptr=>exact ⟨rfl,.inl ⟨_,rfl⟩⟩
 ·cases h;cases hx with
  | p _ _ hx =>
  cases hx with
  | ref=>exact ⟨rfl,.inl ⟨_,rfl⟩⟩
 ·cases h;cases hx with
  | fn=>exact ⟨rfl,.inr ⟨_,_,_,rfl⟩⟩
 ·cases h;cases hx with
  | p _ _ hx =>
  cases hx with
  | fn=>exact ⟨rfl,.inr ⟨_,_,_,rfl⟩⟩
 ·cases h
variable {y:Value}
def A7N {op:BinOp} {t:TypeId} {d e r:D} {x:Value} (hx:Rd w (bY cx ρ σ) ρ d x) (hy:Rd w (bY cx ρ σ) ρ e y) (h:ACS cx.P op t d e=some r) (p q:Operand) :
  ∃ v,(do eqGuard op t p q x y;binOp op t x y:Sem Value).run cx.P w = .ok v w/\Rd w (bY cx ρ σ) ρ r v:=by
 unfold ACS at h;split at h
 ·rename_i pos hop;split at h
  ·rename_i b hb;cases h;exact ⟨_,BB7 hx hy hop hb p q,.p _ _ (.v _)⟩
  ·split at h
   ·rename_i a b _;split at h
    ·rename_i hag;simp only[ac] at hag;split at h
     ·rename_i r' hg he;cases h;cases hx with
      | p _ _ hx =>
      cases hy with
      | p _ _ hy =>
      obtain ⟨xs,rfl⟩:=tV hag.1 hx;obtain ⟨ys,rfl⟩:=tV hag.2 hy;have heq:=BHU 20 10000 (by omega) t a b r' _ _ he hx hy;have hgd:=run_eqGuard_agg (P:=cx.P) w op t p q xs ys hg;refine ⟨.bool (if pos=true then r' else !r'),?_,.p _ _ (.v _)⟩;rw[Sem.run_bind,hgd,Result.andThen_ok];rcases AZX hop with ⟨rfl,rfl⟩|⟨rfl,rfl⟩
      ·rw[run_eql_struct,heq];rfl
      ·rw[run_neq_struct,heq];rfl
     ·cases h
    ·exact ACT hx hy h p q
   ·exact ACT hx hy h p q
 ·exact ACT hx hy h p q
def AVF (mx:Bool):∀ {ds:List D} {vs:List Value} {x v:Value},dO (Rd w (bY cx ρ σ) ρ) ds vs.toArray->ds.foldlM (λ(x:Value) (d:D)=>match d with | .p (.v y)=>mmV mx x y|_=>none) x=some v ->
  (vs.foldlM (if mx then Builtin.max2 else Builtin.min2) x:Sem Value).run cx.P w = .ok v w
 | [],[],x,v,_,h=>by simp at h;subst h;simp
 | [],_::_,_,_,h,_=>by simp[dO] at h
 | _::_,[],_,_,h,_=>by simp[dO] at h
 | d::ds,y::vs,x,v,hr,h=>by
  simp only[List.foldlM_cons,Option.bind_eq_bind,Option.bind_eq_some_iff] at h;obtain ⟨u,hu,h⟩:=h;have h0:=hr.2 0 (by simp);have ht:dO (Rd w (bY cx ρ σ) ρ) ds vs.toArray:=⟨by simpa using hr.1,λi hi=>by
   have:=hr.2 (i+1) (by simp;omega);simpa [Array.getD_eq_getD_getElem?] using this⟩
  split at hu
  ·simp[Array.getD_eq_getD_getElem?] at h0;cases h0 with
   | p _ _ h0 =>
   cases h0;unfold mmV at hu;split at hu
   ·cases hu;have:=AVF mx ht h;cases mx
    ·exact this
    ·exact this
   ·cases hu
  ·cases hu
def BBZ (mx:Bool) {ds:List D} {vs:Array Value} {r:D} (hr:dO (Rd w (bY cx ρ σ) ρ) ds vs) (h:mmD mx ds=some r) (ats:Array TypeId) (ty:TypeId) :
  ∃ v,(if mx then Builtin.max_ ats ty vs else Builtin.min_ ats ty vs:Sem Value).run cx.P w = .ok v w/\Rd w (bY cx ρ σ) ρ r v:=by
 unfold mmD at h;split at h
 ·rename_i x rest;simp only[aa] at h;obtain ⟨v,hv,rfl⟩:=h;obtain ⟨vs⟩:=vs;cases vs with
  | nil=>simp[dO] at hr
  | cons y vs =>
   have h0:=hr.2 0 (by simp);have ht:dO (Rd w (bY cx ρ σ) ρ) rest vs.toArray:=⟨by simpa using hr.1,λi hi=>by
    have:=hr.2 (i+1) (by simp;omega);simpa [Array.getD_eq_getD_getElem?] using this⟩
   cases h0 with
   | p _ _ h0 =>
   cases h0;refine ⟨v,?_,.p _ _ (.v _)⟩;have:=AVF mx ht hv;cases mx
   ·simpa [Builtin.min_] using this
   ·simpa [Builtin.max_] using this
 ·cases h
def AIN {d r:D} {x:Value} (hx:Rd w (bY cx ρ σ) ρ d x) (h:AUU cx.P src dst d=some r):∃ v,(convert src dst x).run cx.P w = .ok v w/\Rd w (bY cx ρ σ) ρ r v:=by
 unfold AUU at h;split at h
 ·split at h
  ·rename_i hu hv;cases h;cases hx with
   | p _ _ hx =>
   cases hx;exact ⟨_,by simp[convert,run_underlying hu,run_underlying hv,Conv.intToInt],.p _ _ (.v _)⟩
  ·cases h
 ·split at h
  ·rename_i hu hv;cases h;cases hx with
   | p _ _ hx =>
   cases hx;exact ⟨_,by simp[convert,run_underlying hu,run_underlying hv],.p _ _ (.v _)⟩
  ·cases h
 ·split at h
  ·rename_i f rows e hrow hs hd;split at h
   ·rename_i xs he hb;cases h;cases hx with
    | p _ _ hx =>
    have hrd:=oA hx hrow;have hrows:=AB hb;refine ⟨.string (strOfNums xs),?_,.p _ _ (.v _)⟩;cases hrd with
    | dF _ a cap hf hn =>
     have:xs=[]:=by simpa using hrows
     subst this;cases a with
     | none=>exact run_convert_bytes_nil w src e hs he 0 cap dst hd
     | some a =>
      rw[run_convert_bytes_string w src dst e _ 0 cap hs he hd,run_bytesToString w a 0 cap [] (by simp[loadCells,loadCellsFrom,Sem.run_pure])];rfl
    | sl _ _ sz b o cap g h1 h2 h3 h4 h45 h5 h6 h7 h8 =>
     have hlen:xs.length=rows.length:=by rw[hrows];simp
     refine run_convert_bytes_arg w src e hs he b o rows.length cap xs hlen (λi hi=>?_) dst hd;have hri:rows[i]=[.v (.int .u8 (xs.getD i 0))]:=by
      have:i<xs.length:=by omega
      simp[hrows,List.getD_eq_getElem?_getD,this]
     have hsz:sz=1:=by rw[<-h5 _ (ak hi),hri];rfl
     subst hsz;have hc:=(h7 i 0 hi (by omega)).1;have hr:=h8 i 0 hi (by rw[hri];simp);simp only[hri,List.getElem_cons_zero] at hr;have:g i 0 = .int .u8 (xs.getD i 0):=by
      generalize g i 0=q at hr;cases hr;rfl
     rw[this] at hc;simpa using hc
   ·cases h
  ·cases h
 ·cases h
def AZQ (hI:Inv cx ρ σ n w) {d r:D} {x:Value} (hx:Rd w (bY cx ρ σ) ρ d x) (h:A73 cx.P σ src dst d=some r):∃ v,(convert src dst x).run cx.P w = .ok v w/\Rd w (bY cx ρ σ) ρ r v:=by
 unfold A73 at h;split at h
 ·rename_i k;split at h
  ·rename_i ro z rows e hk hs hd;split at h
   ·rename_i xs he hb;split at h
    ·rename_i hc;obtain ⟨rfl,hpos⟩:=hc;cases h;have hk':(σ k).bind fJ=some (bK rows):=by rw[hk];rfl
     have hrows:=AB hb;have hlen:xs.length=rows.length:=by rw[hrows];simp
     refine ⟨.string (strOfNums xs),?_,.p _ _ (.v _)⟩;cases hx with
     | eW _ l a hl h0 =>
      have:=hI.qA hk' hl;rw[dL] at this;omega
     | own _ l hl h0 hc1 hc2 =>
      have hL:=hI.qA hk' hl;rw[dL] at hL;have hlz:l.sz=1:=hI.BMH hk hl h0;obtain ⟨c,hheap,hb'⟩:=hI.JP hk' hl h0;rw[<-hL];have hcell:∀ (o:Nat) (v:Value),c[o]? = some v->w.cell? ⟨l.bV,o,none⟩=some v:=λo v h=>by simp[World.cell?,hheap,h]
      refine run_convert_bytes_arg w src e hs he l.bV 0 rows.length l.C xs hlen (λi hi=>?_) dst hd;have hri:rows[i]=[.v (.int .u8 (xs.getD i 0))]:=by
       have:i<xs.length:=by omega
       simp[hrows,List.getD_eq_getElem?_getD,this]
      have hi':i<(bK rows).length:=by rw[dL];exact hi
      have hpi:(bK rows)[i]=[.p (.v (.int .u8 (xs.getD i 0)))]:=by
       simp only[bK,List.getElem_map,hri];rfl
      obtain ⟨v,v1,v2⟩:=hb'.cell i 0 hi' (by rw[hpi];simp);simp only[hpi,List.getElem_cons_zero] at v2;have e1:v = .int .u8 (xs.getD i 0):=by
       cases v2 with
       | p _ _ v2=>cases v2;rfl
      rw[e1,hlz] at v1;simpa using hcell _ _ v1
    ·cases h
   ·cases h
  ·cases h
 ·exact AIN hx h
def BDK {c a b a' b' r:D} {x z:Value} (hc:Rd w (bY cx ρ σ) ρ c x) (ha:Rd w (bY cx ρ σ) ρ a y) (hb:Rd w (bY cx ρ σ) ρ b z) (ha':Rd w (bY cx ρ σ) ρ a' y) (hb':Rd w (bY cx ρ σ) ρ b' z) (h:BDJ true c a b a' b'=some r) :
  ∃ v,(do pure (Next.value (if <-asBool x then y else z)):Sem Next).run cx.P w = .ok (.value v) w/\Rd w (bY cx ρ σ) ρ r v:=by
 unfold BDJ at h;split at h
 ·rename_i t;cases hc with
  | p _ _ hc =>
  cases hc;refine ⟨if t then y else z,by simp[asBool],?_⟩;split at h
  ·grind
  ·split at h
   ·rename_i hg;cases h;cases ha with
    | p _ _ ha =>
    cases ha;cases t
    ·subst hg;cases hb with
     | tM _ _ hb =>
     simp_all
    ·exact .p _ _ (.v _)
   ·cases h
  ·split at h
   ·rename_i hg;cases h;cases hb with
    | p _ _ hb =>
    cases hb;cases t
    ·exact .p _ _ (.v _)
    ·subst hg;cases ha with
     | tM _ _ ha =>
     simp_all
   ·cases h
  ·cases t
   ·simp_all
   ·simp_all
 ·cases h
def BIU {f:FuncId} {a b:List D} {va vb:Array Value} (ha:dO (Rd w (bY cx ρ σ) ρ) a va) (hb:dO (Rd w (bY cx ρ σ) ρ) b vb):Rd w (bY cx ρ σ) ρ (BOO f a b) (.func (.func f) va vb):=by
 unfold BOO;split
 ·rename_i ta tb h1 h2;have k1:=xF ha h1;have k2:=xF hb h2;exact .p _ _ (.fn _ _ _ _ _ k1.1 k2.1 k1.2 k2.2)
 ·exact .fn _ _ _ _ _ ha.1 hb.1 ha.2 hb.2
def evs {s:Nat->D} {a:Act} (hs:∀ x,Rd w (bY cx ρ σ) ρ (ev s x) (a.eval x)) (xs:Array Operand):dO (Rd w (bY cx ρ σ) ρ) (xs.toList.map (ev s)) (xs.map a.eval):=by
 refine ⟨by simp,λi hi=>?_⟩;have hi':i<xs.size:=by simpa using hi
 simp_all
def evO {s:Nat->D} {a:Act} (hs:∀ x,Rd w (bY cx ρ σ) ρ (ev s x) (a.eval x)) (x:Option Operand):RdO w (bY cx ρ σ) ρ (x.map (ev s)) (x.map a.eval):=by
 cases x with
 | none=>trivial
 | some x=>exact hs x
def BLP {E:Env} (hE:bB cx.P E) (hI:Inv cx ρ σ n w) (hG:Good cx.P w) {s₀ s:Nat->D} {a:Act} {o:Oper} {d:D} (hs₀:∀ x,Rd w (bY cx ρ σ) ρ (ev s₀ x) (a.eval x)) (hs:∀ x,Rd w (bY cx ρ σ) ρ (ev s x) (a.eval x)) (h:qv cx.P E n σ s₀ s true o.op=some d)
  {next:Act->World->Prop} {Q:Exit->Act->World->Prop} (hn:∀ v w',Below w.heap.size w w'->Rd w' (bY cx ρ σ) ρ d v->next (a.put o.dst v) w'):o.wp cx.P a w next Q:=by
 have same:∀ {v:Value},(execOp a.eval o).run cx.P w = .ok (.value v) w->Rd w (bY cx ρ σ) ρ d v->o.wp cx.P a w next Q:=by
  intro v h1 h2;unfold Oper.wp;rw[h1];exact hn v w (Below.refl _ _) h2
 have val:∀ {m:Sem Value},execOp a.eval o=(do pure (.value (<-m)))->(∃ v,m.run cx.P w = .ok v w/\Rd w (bY cx ρ σ) ρ d v)->o.wp cx.P a w next Q:=by
  rintro m h1 ⟨v,h2,h3⟩;refine same (v:=v) ?_ h3;rw[h1];simp[h2]
 unfold qv at h;split at h
 ·rename_i x ho;cases h;exact same (by simp[execOp,ho]) (hs x)
 ·rename_i x ho;cases h;exact same (by simp[execOp,ho]) (hs x)
 ·rename_i c x y ho;obtain ⟨v,h1,h2⟩:=BDK (hs c) (hs₀ x) (hs₀ y) (hs x) (hs y) h;refine same (v:=v) ?_ h2;simp only[execOp,ho];exact h1
 ·rename_i t parts ho;refine val (m:=Instr.build t (parts.map λ(i,x)=>(i,a.eval x))) (by simp only[execOp,ho]) ?_;have:=AZI (P:=cx.P) (w:=w) (own:=bY cx ρ σ) (ρ:=ρ) (t:=t) (parts:=parts.toList.map λx=>(x.1,ev s x.2)) (vparts:=parts.toList.map λx=>(x.1,a.eval x.2)) (by simp) (λi h1 h2=>by simp;exact hs _) h;have e:(parts.map λ(i,x)=>(i,a.eval x))=(parts.toList.map λx=>(x.1,a.eval x.2)).toArray:=by cases parts;simp
  rw[e];exact this
 ·rename_i t len parts ho;obtain ⟨v,ob,h1,h2⟩:=TA (P:=cx.P) (w:=w) (own:=bY cx ρ σ) (ρ:=ρ) (t:=t) (len:=len) (parts:=parts.toList.map λx=>(x.1,ev s x.2)) (vparts:=parts.toList.map λx=>(x.1,a.eval x.2))
   (λb hb=>bY.lt hI hb) (by simp) (λi h1 h2=>by simp;exact hs _) h
  have e:(parts.map λ(i,x)=>(i,a.eval x))=(parts.toList.map λx=>(x.1,a.eval x.2)).toArray:=by cases parts;simp
  unfold Oper.wp;simp only[execOp,ho,e,Sem.run_bind,h1,Result.andThen_ok,Sem.run_pure];exact hn v _ ((Below.refl _ _).alloc (al _) _) h2
 ·rename_i t l c ho;obtain ⟨v,ob,h1,h2⟩:=A1W (P:=cx.P) (w:=w) (own:=bY cx ρ σ) (ρ:=ρ) (λb hb=>bY.lt hI hb) (hs l) (hs c) h;unfold Oper.wp;simp only[execOp,ho,Sem.run_bind,h1,Result.andThen_ok,Sem.run_pure];exact hn v _ ((Below.refl _ _).alloc (al _) _) h2
 ·rename_i t x ho;exact val (m:=Instr.loadAt t (a.eval x)) (by simp only[execOp,ho]) (ALE hI (hs x) h)
 ·rename_i op t x y _ ho;exact val (m:=do eqGuard op t x y (a.eval x) (a.eval y);binOp op t (a.eval x) (a.eval y)) (by simp only[execOp,ho]) (A7N (hs x) (hs y) h x y)
 ·rename_i op t x ho;exact val (m:=Op.unary op (a.eval x)) (by simp only[execOp,ho]) (BQH (hs x) h)
 ·rename_i src dst x ho;split at h
  ·exact val (m:=convert src dst (a.eval x)) (by simp only[execOp,ho]) (AZQ hI (hs x) h)
  ·unfold BK6 at h;split at h
   ·rename_i r hr;cases h;exact val (m:=convert src dst (a.eval x)) (by simp only[execOp,ho]) (AIN (hs x) hr)
   ·obtain ⟨v,w',h1,h2,h3⟩:=AZP (P:=cx.P) (w:=w) (own:=bY cx ρ σ) (ρ:=ρ) (λb hb=>bY.lt hI hb) (hs x) h;unfold Oper.wp;simp only[execOp,ho,Sem.run_bind,h1,Result.andThen_ok,Sem.run_pure];exact hn v _ h2 h3
 ·rename_i f first cap ho
  cases h;exact same (by simp[execOp,ho,Instr.makeFunc]) (BIU (evs hs first) (evs hs cap))
 ·rename_i t x lo hi mx ho;exact val (m:=Instr.sliceAt t (a.eval x) (lo.map a.eval) (hi.map a.eval) (mx.map a.eval)) (by simp only[execOp,ho]) (A3T hI (hs x) (evO hs lo) (evO hs hi) (evO hs mx) h)
 ·rename_i t x i ho;exact val (m:=Instr.fieldAt t (a.eval x) i) (by simp only[execOp,ho]) (AZY (hs x) h)
 ·rename_i t x i ho;exact val (m:=Instr.field t (a.eval x) i) (by simp only[execOp,ho]) (AC6 (hs x) h)
 ·rename_i t x i ho;exact val (m:=Instr.indexAt t (a.eval x) (a.eval i)) (by simp only[execOp,ho]) (YN hI (hs x) (hs i) h)
 ·rename_i t x i ho;exact val (m:=Instr.index t (a.eval x) (a.eval i)) (by simp only[execOp,ho]) (A1L (hs x) (hs i) h)
 ·rename_i x i ho;exact val (m:=Instr.extract (a.eval x) i) (by simp only[execOp,ho]) (AIV (hs x) h)
 ·rename_i t x i ok ho;exact val (m:=Instr.lookup t (a.eval x) (a.eval i) ok) (by simp only[execOp,ho]) (BBT hI (hs x) (hs i) h)
 ·rename_i x ho;obtain ⟨e,hv⟩:=BOQ (hs x) h;refine same (v:=a.eval x) ?_ (e ▸ hs x);rcases hv with ⟨q,hv⟩|⟨q1,q2,q3,hv⟩
  ·simp[execOp,ho,hv]
  ·simp[execOp,ho,hv]
 ·rename_i c ho;split at h
  ·rename_i hc;split at h
   ·rename_i t x ht hx;have et:c.argTypes = #[t]:=by rw[<-Array.toList_inj];exact ht
    have ex:c.args = #[x]:=by rw[<-Array.toList_inj];exact hx
    obtain ⟨v,h1,h2⟩:=BIN (ty:=o.type) hI (hs x) h;refine same (v:=v) ?_ h2;simp[execOp,ho,resolve,hc,et,ex,invoke,builtin,h1]
   ·cases h
  ·rename_i hc;obtain ⟨v,h1,h2⟩:=BBZ false (evs hs c.args) h c.argTypes o.type;refine same (v:=v) ?_ h2;simp at h1;simp[execOp,ho,resolve,hc,invoke,builtin,h1]
  ·rename_i hc;obtain ⟨v,h1,h2⟩:=BBZ true (evs hs c.args) h c.argTypes o.type;refine same (v:=v) ?_ h2;simp at h1;simp[execOp,ho,resolve,hc,invoke,builtin,h1]
  ·rename_i f hc;rcases AIF hE hI hG (hs f) (evs hs c.args) h with ⟨k,as,h1,h2⟩|⟨v,h1,h2⟩
   ·unfold Oper.wp;have he:(execOp a.eval o).run cx.P w = .ok (.enter k as) w:=by
     simp only[execOp,ho,resolve,hc];exact h1
    rw[he];refine h2.mono ?_;rintro e w' ⟨v,rfl,h3,h4⟩;exact hn v w' h4 h3
   ·refine same (v:=v) ?_ h2;simp only[execOp,ho,resolve,hc];exact h1
  ·cases h
 ·cases h
end
end Go.Pv
