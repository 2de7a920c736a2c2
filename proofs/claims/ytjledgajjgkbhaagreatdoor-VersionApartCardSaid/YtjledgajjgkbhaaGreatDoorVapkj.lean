/-
  The symbolic executor, part j: what comes into a law, as typed data; from a function of data to the row's step.
-/
import Derived.Test.YtjledgajjgkbhaaGreatDoorVapki
import Derived.Test.YtjledgajjgkbhaaGreatDoorVapwq
import Derived.Handed
set_option linter.defProp false
set_option linter.unusedSimpArgs false
set_option linter.unusedVariables false
namespace Go.Pv
open Go Go.RowKit Go.WideShapes Go.ChangeShapes
def bsz:Sy→Nat
 | .int k=>k.bits / 8
 | .bool=>1
 | .str=>16
 | .any=>8
 | .pr a b=>bsz a+bsz b
 | .li _=>24
def J7 (B:Nat):(r:Sy)→r.den→Prop
 | .int k,n=>(Lit.int k n).wf=true
 | .bool,_=>True
 | .str,s=>ByteArray.size s≤B
 | .any,_=>False
 | .pr a b,x=>J7 B a x.1∧J7 B b x.2
 | .li r,l=>List.length (α:=r.den) l*bsz r≤B∧List.length (α:=r.den) l≤B∧∀ y,List.Mem y (show List r.den from l)→J7 B r y
def ALA (B:Nat):(s:Sh)→Sh.den s→Prop
 | [],_=>True
 | [a],x=>J7 B a.2 x
 | a::b::l,x=>J7 B a.2 x.1∧ALA B (b::l) x.2
abbrev InS (r:Sy) (x:r.den):Prop:=J7 (2 ^ 47) r x
abbrev A86 (s:Sh) (x:Sh.den s):Prop:=ALA (2 ^ 47) s x
def A9K (P:Program) (n:Nat) (t:TypeId):Bool:=match syF P n t with
 | some r=>r.w == P.cellsOf t
 | none=>false
def HC (P:Program):Nat→TypeId→Bool
 | 0,_=>false
 | n+1,t=>match P.underlying t with
  | some (.int _)=>true
  | some .bool=>true
  | some .string=>true
  | some (.slice e)=>(match syF P n e with
   | some r=>decide (bsz r≤P.bytesOf e)
   | none=>false)&&HC P n e
  | some (.struct fs)=>fs.toList.all fun f=>HC P n f.type&&A9K P n f.type
  | some (.array _ e)=>HC P n e&&A9K P n e
  | _=>false
theorem Wk.append {a a' b b':List T} (h:Wk a a') (h':Wk b b'):Wk (a++b) (a'++b'):=by
 refine ⟨by simp[h.1,h'.1],fun i x y hx hy=>?_⟩
 by_cases hi:i<a.length
 ·rw[List.getElem?_append_left hi] at hx
  rw[List.getElem?_append_left (by rw[←h.1];exact hi)] at hy
  exact h.2 i x y hx hy
 ·rw[List.getElem?_append_right (by omega)] at hx
  rw[List.getElem?_append_right (by rw[←h.1];omega),←h.1] at hy
  exact h'.2 _ x y hx hy
theorem ASK {w:World} {own:Nat→Prop} {a:T} {f:Bool} {rows rows':List (List T)} {v:Value} (ha:fK a=some (f,rows)) (hl:rows.length=rows'.length) (hw:∀ (i:Nat) (r r':List T),rows[i]? = some r→rows'[i]? = some r'→Wk r r') (h:cN w own a v):cN w own (.sl false rows') v:=by
 have nilcase:rows=[]→(∃ a cap,v = .slice a 0 cap∧(a=none→cap=0))→cN w own (.sl false rows') v:=by
  rintro rfl ⟨a,cap,rfl,hn⟩
  have:rows'=[]:=List.eq_nil_of_length_eq_zero hl.symm
  subst this
  exact .cQ false a cap (by simp) hn
 unfold fK at ha
 split at ha
 ·cases ha
  cases h with
  | cQ _ a cap hf hn=>exact nilcase rfl ⟨a,cap,rfl,hn⟩
  | sl _ _ sz b o cap g h1 h2 h3 h4 h45 h5 h6 h7 h8 =>
   rw[hl]
   refine .sl false rows' sz b o cap g (by omega) (by omega) (by simp) h4 h45 (fun r hr=>?_) h6 (fun i j hi hj=>h7 i j (by omega) hj) (fun i j hi hj=>?_)
   ·obtain ⟨i,hi,rfl⟩:=List.mem_iff_getElem.1 hr
    have hi':i<rows.length:=by omega
    have:=(hw i rows[i] rows'[i] (by simp[hi']) (by simp[hi])).1
    simp_all
   ·have hi':i<rows.length:=by omega
    have hk:=hw i rows[i] rows'[i] (by simp[hi']) (by simp[hi])
    have hj':j<rows[i].length:=by rw[hk.1];exact hj
    exact hk.2 j rows[i][j] rows'[i][j] (by simp[hj']) (by simp[hj]) _ _ _ (h8 i j hi' hj')
 ·cases ha;cases h;exact nilcase rfl ⟨none,0,rfl,fun _=>rfl⟩
 ·cases ha
  cases h with
  | ne _ a cap hf=>exact nilcase rfl ⟨some a,cap,rfl,fun h=>by cases h⟩
 ·cases ha
section
variable {B : Nat} {P : Program}
theorem PD {n:Nat} {ts:List T} (ih:∀ (t:TypeId) (r:Sy) (ts:List T),syF P n t=some r→HC P n t=true→RU B P t ts→∃ x,Wk ts (r.enc x)∧J7 B r x):∀ (pl:List (Nat×TypeId)) (o N:Nat) (r:Sy),mM P o pl=some N→ts.length=N →
  (∀ p∈pl,HC P n p.2=true∧A9K P n p.2=true∧RU B P p.2 ((ts.drop p.1).take (P.cellsOf p.2)))→syL (pl.map fun p=>syF P n p.2)=some r→∃ x,Wk (ts.drop o) (r.enc x)∧J7 B r x
 | [],_,_,_,_,_,_,h=>by simp[syL] at h
 | [(a,t)],o,N,r,hc,hN,hp,h=>by
  simp only[mM] at hc
  split at hc
  ·rename_i ha
   subst ha
   cases hc
   obtain ⟨h1,_,h3⟩:=hp (a,t) (by simp)
   have:(ts.drop a).take (P.cellsOf t)=ts.drop a:=by rw[List.take_of_length_le];simp;omega
   rw[this] at h3
   exact ih t r _ h h1 h3
  ·cases hc
 | (a,t)::q::l,o,N,r,hc,hN,hp,h=>by
  rw[mM] at hc
  split at hc
  ·rename_i ha
   subst ha
   obtain ⟨h1,h2,h3⟩:=hp (a,t) (by simp)
   simp only[List.map_cons,syL] at h
   split at h
   ·rename_i ra rb e1 e2
    cases h
    obtain ⟨x,w1,i1⟩:=ih t ra _ e1 h1 h3
    obtain ⟨y,w2,i2⟩:=PD ih (q::l) (a+P.cellsOf t) N rb hc hN (fun p hp'=>hp p (List.mem_cons_of_mem _ hp')) (by simpa only [List.map_cons] using e2)
    refine ⟨(x,y),?_,i1,i2⟩
    have:ts.drop a=(ts.drop a).take (P.cellsOf t)++ts.drop (a+P.cellsOf t):=by rw[←List.drop_drop,List.take_append_drop]
    rw[this]
    exact w1.append w2
   ·cases h
  ·cases hc
theorem A2X:∀ (n:Nat) (t:TypeId) (r:Sy) (ts:List T),syF P n t=some r→HC P n t=true→RU B P t ts→∃ x,Wk ts (r.enc x)∧J7 B r x:=by
 intro n
 induction n with
 | zero=>intro t r ts h;cases h
 | succ n ih =>
  intro t r ts h hc hty
  cases hty with
  | bool _ b hu=>simp only[syF,hu] at h;cases h;exact ⟨b,Wk.refl _,trivial⟩
  | int _ k m hu hwf=>simp only[syF,hu] at h;cases h;exact ⟨m,Wk.refl _,hwf⟩
  | string _ s hu hs=>simp only[syF,hu] at h;cases h;exact ⟨s,Wk.refl _,hs⟩
  | slice _ e a f rows hu hr hb hlen hrows =>
   simp only[HC,hu,Bool.and_eq_true] at hc
   simp only[syF,hu] at h
   cases he:syF P n e with
   | none=>rw[he] at hc;cases hc.1
   | some re =>
    rw[he] at hc h
    cases h
    have hbs:bsz re≤P.bytesOf e:=of_decide_eq_true hc.1
    have hex:∃ l:List re.den,l.length=rows.length∧(∀ (i:Nat) (r:List T) (y:re.den),rows[i]? = some r→l[i]? = some y→Wk r (re.enc y))∧∀ y∈l,J7 B re y:=by
     clear hr hb hlen
     induction rows with
     | nil=>exact ⟨[],rfl,fun i r y h=>by simp at h,fun y h=>by cases h⟩
     | cons r0 rows ihr =>
      obtain ⟨x,w1,i1⟩:=ih e re r0 he hc.2 (hrows r0 (by simp))
      obtain ⟨l,g1,g2,g3⟩:=ihr fun r hr=>hrows r (by simp[hr])
      refine ⟨x::l,by simp[g1],fun i r y hr hy=>?_,fun y hy=>?_⟩
      ·match i with
       | 0=>simp at hr hy;subst hr;subst hy;exact w1
       | i+1=>exact g2 i r y (by simpa using hr) (by simpa using hy)
      ·rcases List.mem_cons.1 hy with rfl|hy
       ·exact i1
       ·simp_all
    obtain ⟨l,g1,g2,g3⟩:=hex
    refine ⟨l,⟨rfl,fun i x y hx hy=>?_⟩,?_,by omega,fun y hy=>g3 y hy⟩
    ·match i with
     | 0 =>
      simp only[Sy.enc] at hy
      simp at hx hy
      subst hx;subst hy
      intro w own v hv
      refine ASK hr (by simp[g1]) (fun i r r' h1 h2=>?_) hv
      rw[List.getElem?_map] at h2
      cases hl:l[i]? with
      | none=>rw[hl] at h2;cases h2
      | some z=>rw[hl] at h2;cases h2;exact g2 i r z h1 hl
     | i+1=>simp at hx
    ·rw[g1];exact Nat.le_trans (Nat.mul_le_mul_left _ hbs) hb
  | parts _ pl N _ hpl hct hlen hp =>
   have hpl':=hpl
   unfold partsOf at hpl'
   split at hpl'
   ·rename_i fs hu
    cases hpl'
    simp only[HC,hu,List.all_eq_true,Bool.and_eq_true] at hc
    simp only[syF,hu] at h
    have:=PD (ts:=ts) ih (fs.toList.map fun f=>(f.offset,f.type)) 0 N r hct hlen (fun p hp'=>by
     obtain ⟨f,hf,rfl⟩:=List.mem_map.1 hp'
     exact ⟨(hc f hf).1,(hc f hf).2,hp _ hp'⟩) (by rw[List.map_map];exact h)
    simp_all
   ·rename_i m e hu
    cases hpl'
    simp only[HC,hu,Bool.and_eq_true] at hc
    simp only[syF,hu] at h
    have:=PD (ts:=ts) ih ((List.range m).map fun i=>(i*P.cellsOf e,e)) 0 N r hct hlen (fun p hp'=>by
     obtain ⟨i,hi,rfl⟩:=List.mem_map.1 hp'
     exact ⟨hc.1,hc.2,hp _ hp'⟩) (by
      rw[List.map_map,←h]
      congr 1
      rw[List.eq_replicate_iff]
      exact ⟨by simp,fun b hb=>by obtain ⟨i,_,rfl⟩:=List.mem_map.1 hb;rfl⟩)
    simp_all
   ·cases hpl'
theorem A7I {t:TypeId} {a:T} {ag:Bool} {r:Sy} (hag:AX P t=some ag) (hr:YQ P t=some r) (hc:HC P 12 t=true) (h:AV4 B P t a):∃ x,J7 B r x∧∀ w own v,cN w own a v→cN w own (aF ag r x) v:=by
 unfold AV4 at h
 have one:RU B P t [a]→ag=false→∃ x,J7 B r x∧∀ w own v,cN w own a v→cN w own (aF ag r x) v:=by
  rintro h rfl
  obtain ⟨x,w1,i1⟩:=A2X 12 t r _ hr hc h
  exact ⟨x,i1,fun w own v hv=>A2Y w1 hv⟩
 unfold AX at hag
 split at h
 ·rename_i fs hu
  obtain ⟨ts,rfl,h⟩:=h
  rw[hu] at hag
  cases hag
  obtain ⟨x,w1,i1⟩:=A2X 12 t r _ hr hc h
  exact ⟨x,i1,fun w own v hv=>YV w1 hv⟩
 ·rename_i m e hu
  obtain ⟨ts,rfl,h⟩:=h
  rw[hu] at hag
  cases hag
  obtain ⟨x,w1,i1⟩:=A2X 12 t r _ hr hc h
  exact ⟨x,i1,fun w own v hv=>YV w1 hv⟩
 ·rename_i h1 h2
  refine one h ?_
  cases hu:P.underlying t with
  | none=>rw[hu] at hag;cases hag
  | some d =>
   rw[hu] at hag
   cases d<;>first|(cases hag;rfl)|exact absurd hu (h1 _)|exact absurd hu (h2 _ _)
theorem T7:∀ {ts:List TypeId} {as:List T} {s:Sh},MZ B P ts as→shL P ts=some s→(∀ t∈ts,HC P 12 t=true)→∃ x,ALA B s x∧∀ w own (vs:List Value),cZ (cN w own) as vs.toArray→cZ (cN w own) (Sh.iH s x) vs.toArray
 | [],_,s,.nil,h,_=>by
  cases h
  exact ⟨(),trivial,fun w own vs h=>h⟩
 | t::ts,_,s,.cons (a:=a) (as:=as) h1 h2,h,hc=>by
  simp only[shL] at h
  split at h
  ·rename_i ag r s' e1 e2 e3
   cases h
   obtain ⟨x,i1,w1⟩:=A7I e1 e2 (hc t (by simp)) h1
   obtain ⟨y,i2,w2⟩:=T7 h2 e3 fun t ht=>hc t (by simp[ht])
   have split1:∀ (w:World) (own:Nat→Prop) (v:Value) (vs:List Value),cZ (cN w own) (a::as) (v::vs).toArray→cN w own a v∧cZ (cN w own) as vs.toArray:=by
    intro w own v vs hh
    refine ⟨hh.2 0 (by simp),by have:=hh.1;simp at this ⊢;exact this,fun i hi=>?_⟩
    have:=hh.2 (i+1) (by simp;omega)
    simp_all
   have join1:∀ (w:World) (own:Nat→Prop) (b:T) (bs:List T) (v:Value) (vs:List Value),cN w own b v→cZ (cN w own) bs vs.toArray→cZ (cN w own) (b::bs) (v::vs).toArray:=by
    intro w own b bs v vs h1 h2
    have:=(cZ.one (R:=cN w own) h1).append h2
    simp_all
   cases s' with
   | nil =>
    refine ⟨x,i1,fun w own vs hh=>?_⟩
    cases vs with
    | nil=>have:=hh.1;simp at this
    | cons v vs =>
     obtain ⟨g1,g2⟩:=split1 w own v vs hh
     exact join1 w own _ _ v vs (w1 w own v g1) (w2 w own vs g2)
   | cons b l =>
    refine ⟨(x,y),⟨i1,i2⟩,fun w own vs hh=>?_⟩
    cases vs with
    | nil=>have:=hh.1;simp at this
    | cons v vs =>
     obtain ⟨g1,g2⟩:=split1 w own v vs hh
     exact join1 w own _ _ v vs (w1 w own v g1) (w2 w own vs g2)
  ·cases h
end
theorem AZZ {C:Checked} {f:FuncId} {fn:Func} {s:ChangeSpec} {sh:Sh} {sp:Sh.den sh→Option T} {tb:TypeId} {n:Nat} {H:Type} {enc:TypeId×Value→H} {B:Nat} (hB:B≤2 ^ 47) (laid:laidOutB C.prog=true) (hlow:decide (C.prog.globals.size<C.prog.low)=true)
  (hres:fn.resultTypes = #[tb]) (hbool:C.prog.underlying tb=some .bool) (hvars:s.vars=[])
  (hs:∀ (H:Type) (ds:List (DataW H)),ds.length=fn.params.size→(s.fn H (ds++[])).results=[.lit (.bool true)]∧(s.fn H (ds++[])).args=ds∧(s.fn H (ds++[])).vars=[])
  (hpar:∀ t∈fn.params.toList,okT C.prog n t=true∧C.prog.readableRec t=true∧t<C.prog.types.size) (hsh:shL C.prog fn.params.toList=some sh) (hok:rA sh=true) (hchk:(fn.params.toList.all fun t=>HC C.prog 12 t)=true) (hg:aN C.prog f (gS sh sp)) (hT:∀ x,ALA B sh x→sp x=some (.v (.bool true)))
  (hplain:s.plain.varTypes C.prog=[])
  {W:World} {base:Nat} {args:Array Value} {ds gs:List (DataW H)} {before:List MemPlace} (hval:∀ (j:Nat) t v,fn.params[j]? = some t→args[j]? = some v→Value.okWide C.prog W .any base t v)
  (hW:DataW.Whole enc C.prog fn.params.toList s.vars false W args.toList ds gs before) (hsz:(DataW.weightsEach C.prog (fn.params.toList++s.plain.varTypes C.prog) (ds++gs)).all (· ≤ B)=true) (hshp:W.ShapedOpen C.prog) :
  Calls C.prog f args W fun e W'=>∃ v,e = .returned v∧s.post enc C.prog fn false true false false W args v W':=by
 have hW':=hW
 obtain ⟨p,q,hA,hV,rfl,hfz,hnd⟩:=hW
 rw[hvars] at hV
 have hgs:gs=[]∧q=[]:=by
  cases gs with
  | nil=>exact ⟨rfl,hV⟩
  | cons _ _=>exact hV.elim
 obtain ⟨rfl,rfl⟩:=hgs
 have hw:(DataW.weightsEach C.prog fn.params.toList ds).all (· ≤ B)=true:=by
  rw[hplain] at hsz
  simpa using hsz
 obtain ⟨as,has,hty⟩:=ALD hB (fun t ht=>(hpar t ht).1) (fun j t v ht hv=>hval j t v (by simpa using ht) (by simpa using hv)) hA hw
 obtain ⟨x,hin,henc⟩:=T7 hty hsh (fun t ht=>List.all_eq_true.1 hchk t ht)
 have hlen:=J6 hA
 refine (hg.calls W (fun _=>False) (Sh.iH sh x) args (.v (.bool true)) (A5P hlow hshp) (fun b h=>h.elim) (by simpa using henc W (fun _=>False) args.toList has) (by rw[bE hok x rfl];exact hT x hin)).mono ?_
 rintro e W' ⟨v,rfl,hv,bel⟩
 cases hv
 obtain ⟨s1,s2,s3⟩:=hs H ds (by simpa using hlen)
 refine ⟨_,rfl,_,_,_,[],p,[],hW',?_,?_,?_,bel.frame _,fun h=>by cases h⟩
 ·rw[s1,hres]
  exact trodAll_mk1 (shut_bool hbool _)
 ·rw[s2]
  exact BO laid bel (fun t ht=>(hpar t ht).2) hA
 ·rw[s3,hvars]
  rfl
theorem BEN {C:Checked} {f:FuncId} {fn:Func} {s:ChangeSpec} {sh:Sh} {sp:Sh.den sh→Option T} {tb:TypeId} {n:Nat} {X:World→Array Value→Prop} (own:ownKnob C.prog.godebug=none) (laid:laidOutB C.prog=true) (hlow:decide (C.prog.globals.size<C.prog.low)=true) (noInit:C.prog.inits.idxOf? f=none) (hfn:C.prog.funcs[f]? = some fn)
  (hres:fn.resultTypes = #[tb]) (hbool:C.prog.underlying tb=some .bool) (hvars:s.vars=[])
  (hs:∀ (H:Type) (ds:List (DataW H)),ds.length=fn.params.size→(s.fn H (ds++[])).results=[.lit (.bool true)]∧(s.fn H (ds++[])).args=ds∧(s.fn H (ds++[])).vars=[])
  (hpar:∀ t∈fn.params.toList,okT C.prog n t=true∧C.prog.readableRec t=true∧t<C.prog.types.size) (hsh:shL C.prog fn.params.toList=some sh) (hok:rA sh=true) (hchk:(fn.params.toList.all fun t=>HC C.prog 12 t)=true) (hg:aN C.prog f (gS sh sp)) (hT:∀ x,A86 sh x→sp x=some (.v (.bool true)))
  (hplain:s.plain.varTypes C.prog=[])
  (os:Os) (started:os.Started) (H:Type) (enc:TypeId×Value→H)
  (witness:∃ (w:World) (tape:Tape) (i:Input),w.os=os∧(w.forCall tape i).Shaped C.prog∧i.vars=[]∧Input.okWide C.prog (w.forCall tape i) .any w.heap.size f i ∧
   ((s.pre enc C.prog fn [] false (w.forCall tape i).memory i.args∧X (w.forCall tape i).memory i.args)∧sizedMet enc C.prog fn (OpenSpec.ofChange s) false (w.forCall tape i).memory i.args)∧({}:Assume).holds C.prog (lone (Frame.enter C.prog f i.args .normal) [] (w.forCall tape i))) :
  ReturnsInHanded {} C os f .any (fun w args=>(s.pre enc C.prog fn [] false w args∧X w args)∧sizedMet enc C.prog fn (OpenSpec.ofChange s) false w args) (s.post enc C.prog fn false true false false):=by
 refine returnsInHanded_of_calls own started noInit witness ?_
 intro w tape i _ hshp _ hokk hpre hholds
 obtain ⟨_,_,_,fn',hfn',_,_,_,_,hval⟩:=hokk
 have e:fn'=fn:=Option.some.inj (hfn'.symm.trans hfn)
 subst e
 obtain ⟨⟨⟨ds,gs,before,hw,hc⟩,hx⟩,hz⟩:=hpre
 have hw':=DataW.Whole.of_heap (w':=w.forCall tape i) (by rfl) hw
 refine (AZZ (Nat.le_refl _) laid hlow hres hbool hvars hs hpar hsh hok hchk hg hT hplain hval hw' (A67 (hz.weights hw)) hshp).mono fun e W' ⟨v,he,hp⟩=>?_
 subst he
 exact ChangeSpec.post_blind hp
end Go.Pv
