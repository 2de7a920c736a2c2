/-
  The symbolic executor, part h: how one reasons about what it says.
-/
import Derived.Test.YtdeckddpmegjeaaGreatDoorPv4kg
import Derived.Test.YtdeckddpmegjeaaGreatDoorPv4wo
set_option linter.defProp false
set_option linter.unusedSimpArgs false
namespace Go.Pv
open Go Go.RowKit
def RJ:(r:Sy)→r.den→Prop
 | .pr a b,x=>RJ a x.1∧RJ b x.2
 | .li r,l=>List.length (α:=r.den) l≤2 ^ 47∧∀ y,List.Mem y (show List r.den from l)→RJ r y
 | .int _,_=>True
 | .bool,_=>True
 | .str,_=>True
 | .any,_=>True
theorem tA:∀ {r:Sy} {x:r.den},(∀ t∈r.enc x,Bd t)→RJ r x
 | .int _,_,_=>trivial
 | .bool,_,_=>trivial
 | .str,_,_=>trivial
 | .any,_,_=>trivial
 | .pr a b,x,h=>⟨tA fun t ht=>h t (by simp only[Sy.enc,List.mem_append];exact .inl ht),tA fun t ht=>h t (by simp only[Sy.enc,List.mem_append];exact .inr ht)⟩
 | .li r,l,h=>by
  have:=(TI _ _).1 (h (.sl false (List.map r.enc l)) (by simp[Sy.enc]))
  exact ⟨by have h1:(List.map r.enc (show List r.den from l)).length≤2 ^ 47:=this.1;rw[List.length_map] at h1;exact h1,fun y hy=>tA fun t ht=>this.2 (r.enc y) (List.mem_map.2 ⟨y,hy,rfl⟩) t ht⟩
theorem GZ {ag:Bool} {r:Sy} {x:r.den} (hw:(ag||r.w == 1)=true) (h:Bd (aE ag r x)):RJ r x:=by
 cases ag with
 | true=>exact tA ((K5 _).1 h)
 | false =>
  have hl:(r.enc x).length=1:=by rw[Sy.cO];simpa using hw
  obtain ⟨u,hu⟩:=List.length_eq_one_iff.1 hl
  refine tA fun t ht=>?_
  rw[hu] at ht
  simp only[aE,hu,PU] at h
  rw[List.mem_singleton.1 ht];exact h
def lR (s:Sh):Bool:=s.all fun x=>x.1||x.2.w == 1
theorem tL {ag:Bool} {r:Sy} (hw:(ag||r.w == 1)=true) {x y:r.den} (h:aE ag r x=aE ag r y):x=y:=by
 cases ag with
 | true=>simp only[aE,T.agg.injEq] at h;exact Sy.j9 r _ _ h
 | false =>
  have hx:(r.enc x).length=1:=by rw[Sy.cO];simpa using hw
  have hy:(r.enc y).length=1:=by rw[Sy.cO];simpa using hw
  obtain ⟨u,hu⟩:=List.length_eq_one_iff.1 hx
  obtain ⟨v,hv⟩:=List.length_eq_one_iff.1 hy
  simp only[aE,hu,hv,PU] at h
  exact Sy.j9 r _ _ (by rw[hu,hv,h])
theorem tM:∀ {s:Sh},lR s=true→∀ {x y:Sh.den s},Sh.dI s x=Sh.dI s y→x=y
 | [],_,_,_,_=>rfl
 | [a],h,x,y,he=>by
  simp only[Sh.dI,List.cons.injEq] at he
  exact tL (by simpa [lR] using h) he.1
 | a::b::l,h,x,y,he=>by
  have h':(a.1||a.2.w == 1)=true∧lR (b::l)=true:=by
   unfold lR at h ⊢
   rw[List.all_cons,Bool.and_eq_true] at h
   exact h
  simp only[Sh.dI,List.cons.injEq] at he
  exact Prod.ext (tL h'.1 he.1) (tM h'.2 he.2)
def e6:(s:Sh)→Sh.den s→Prop
 | [],_=>True
 | [a],x=>RJ a.2 x
 | a::b::l,x=>RJ a.2 x.1∧e6 (b::l) x.2
theorem yV:∀ {s:Sh},lR s=true→∀ {x:Sh.den s},(∀ t∈Sh.dI s x,Bd t)→e6 s x
 | [],_,_,_=>trivial
 | [a],h,x,hb=>GZ (by simpa [lR] using h) (hb _ (by simp[Sh.dI]))
 | a::b::l,h,x,hb=>by
  have h':(a.1||a.2.w == 1)=true∧lR (b::l)=true:=by
   unfold lR at h ⊢
   rw[List.all_cons,Bool.and_eq_true] at h
   exact h
  exact ⟨GZ h'.1 (hb _ (by simp[Sh.dI])),yV h'.2 fun t ht=>hb t (by simp only[Sh.dI,List.mem_cons];exact .inr ht)⟩
open Classical in
noncomputable def gS {α:Type} (s:Sh) (sp:Sh.den s→Option α) (args:List T):Option α:=if h:∃ x,args=Sh.dI s x then sp (Classical.choose h) else none
theorem cI {α:Type} {s:Sh} (hs:lR s=true) {sp:Sh.den s→Option α} {args:List T} (x:Sh.den s) (h:args=Sh.dI s x):gS s sp args=sp x:=by
 unfold gS
 have he:∃ x,args=Sh.dI s x:=⟨x,h⟩
 rw[dif_pos he]
 congr 1
 exact tM hs ((Classical.choose_spec he).symm.trans h)
theorem HC {α:Type} {s:Sh} {sp:Sh.den s→Option α} {args:List T} {r:α} (h:gS s sp args=some r):∃ x,args=Sh.dI s x∧sp x=some r:=by
 unfold gS at h
 split at h
 ·rename_i he
  exact ⟨_,Classical.choose_spec he,h⟩
 ·cases h
theorem NY {P:Program} {E:Env} {Hs:FuncId→Hint} (hE:aM P E) (hm:P.follows .mixedOrders=true) (hn:cA P=true) (hh:eC E) (k:Nat) {f:FuncId} {s:Sh} {sp:Sh.den s→Option T} (hex:∃ fn c,P.funcs[f]? = some fn∧fn.body=some c) (hs:lR s=true)
  (h:∀ x r,sp x=some r→e6 s x→xS bD P E Hs k f (Sh.dI s x) (fun y=>y=r)):bE P f (gS s sp) :=
 xG hE hm hn hh k hex fun args r hg hb=>by
  obtain ⟨x,rfl,hx⟩:=HC hg
  exact h x r hx (yV hs hb)
def Q2:List (Nat×LH)→Nat→LH
 | [],_=>.none
 | (a,h)::l,r=>match r == a with
  | true=>h
  | false=>Q2 l r
def gJ (f:FuncId) (l:List (Nat×LH)) (n:FuncId→Hint):FuncId→Hint:=fun g=>match g == f with
 | true=>⟨Q2 l,fun _ _=>none,fun _=>none⟩
 | false=>n g
abbrev O1 (P:Program) (f:FuncId) (g:List T→Option T) {A1 A2:Type} (sp:A1×A2→Option T) (B:A1×A2→Prop) (F:A1→A2→(T→Prop)→Prop):Prop:=(∀ (x1:A1) (x2:A2) r,sp (x1,x2)=some r→B (x1,x2)→F x1 x2 (fun y=>y=r))→bE P f g
theorem zP {P:Program} {E:Env} {Hs:FuncId→Hint} {a1 a2:Bool×Sy} {sp:a1.2.den×a2.2.den→Option T} {F:a1.2.den→a2.2.den→(T→Prop)→Prop} {k:Nat} {f:FuncId} (hE:aM P E) (hm:P.follows .mixedOrders=true) (hn:cA P=true) (hh:eC E) (hex:∃ fn c,P.funcs[f]? = some fn∧fn.body=some c) (hs:lR [a1,a2]=true) (hF:∀ x1 x2 R,xS bD P E Hs k f (Sh.dI [a1,a2] (x1,x2)) R=F x1 x2 R)
  (h:∀ x1 x2 r,sp (x1,x2)=some r→e6 [a1,a2] (x1,x2)→F x1 x2 (fun y=>y=r)):bE P f (gS (s:=[a1,a2]) sp) :=
 NY hE hm hn hh k hex hs fun x r h1 h2=>by
  obtain ⟨x1,x2⟩:=x
  rw[hF]
  exact h x1 x2 r h1 h2
open Classical in
noncomputable def gA {α X:Type} (A:X→List T) (sp:X→Option α) (args:List T):Option α:=if h:∃ x,args=A x then sp (Classical.choose h) else none
theorem UG {α X:Type} {A:X→List T} {sp:X→Option α} (hA:∀ x y,A x=A y→x=y) (x:X):gA A sp (A x)=sp x:=by
 unfold gA
 have he:∃ y,A x=A y:=⟨x,rfl⟩
 rw[dif_pos he]
 congr 1
 exact hA _ _ (Classical.choose_spec he).symm
theorem PR {α X:Type} {A:X→List T} {sp:X→Option α} {args:List T} {r:α} (h:gA A sp args=some r):∃ x,args=A x∧sp x=some r:=by
 unfold gA at h
 split at h
 ·rename_i he
  exact ⟨_,Classical.choose_spec he,h⟩
 ·cases h
theorem NX {P:Program} {E:Env} {Hs:FuncId→Hint} (hE:aM P E) (hm:P.follows .mixedOrders=true) (hn:cA P=true) (hh:eC E) (k:Nat) {f:FuncId} {X:Type} {A:X→List T} {sp:X→Option T} (hex:∃ fn c,P.funcs[f]? = some fn∧fn.body=some c)
  (h:∀ x r,sp x=some r→(∀ t∈A x,Bd t)→xS bD P E Hs k f (A x) (fun y=>y=r)):bE P f (gA A sp) :=
 xG hE hm hn hh k hex fun args r hg hb=>by
  obtain ⟨x,rfl,hx⟩:=PR hg
  exact h x r hx hb
theorem FM (A B:Prop):aI true A B=A:=propext ⟨fun h=>h,fun h=>h⟩
theorem FL (A B:Prop):aI false A B=B:=propext ⟨fun h=>h,fun h=>h⟩
theorem PD {r:Sy} {l:List r.den} {i:Nat} {y:r.den}:(List.map r.enc l)[i]? = some (r.enc y)↔l[i]? = some y:=by
 rw[List.getElem?_map]
 cases h:l[i]? with
 | none=>simp
 | some z=>simp only[Option.map_some,Option.some.injEq];exact ⟨Sy.j9 r _ _,fun e=>by rw[e]⟩
theorem KV (r:Sy) (l:List r.den) (i:Int) (K:r.den→Prop):gV r (List.map r.enc l) i K = ∃ y,0≤i∧l[i.toNat]? = some y∧K y:=by
 simp only[gV,PD]
theorem DA {r:Sy} {l:List r.den} {k:Nat} (h:k<l.length) (K:r.den→Prop):gV r (List.map r.enc l) (k:Int) K=K l[k]:=by
 rw[KV]
 apply propext
 constructor
 ·rintro ⟨y,_,h1,h2⟩
  rw[Int.toNat_natCast,List.getElem?_eq_getElem h] at h1
  cases h1;exact h2
 ·exact fun hk=>⟨l[k],by omega,by rw[Int.toNat_natCast,List.getElem?_eq_getElem h],hk⟩
theorem EZ:∀ {s:Sh},lR s=true→∀ {x y:Sh.den s},Sh.enc s x=Sh.enc s y→x=y
 | [],_,_,_,_=>rfl
 | [a],h,x,y,he=>tL (by simpa [lR] using h) he
 | a::b::l,h,x,y,he=>by
  simp only[Sh.enc,T.aT.injEq] at he
  exact tM h he
theorem I4 {s:Sh} (hs:lR s=true) (y:Sh.den s) (K:Sh.den s→Prop):aF s (some (Sh.enc s y)) K=K y:=by
 apply propext
 constructor
 ·rintro ⟨z,h1,h2⟩
  rw[EZ hs (Option.some.inj h1)];exact h2
 ·exact fun hk=>⟨y,rfl,hk⟩
theorem aQ {s:Sh} {a:Option T} {y:Sh.den s} {K:Sh.den s→Prop} (h:a=some (Sh.enc s y)) (hk:K y):aF s a K:=⟨y,h,hk⟩
def Sy.pure:Sy→Bool
 | .any=>false
 | .pr a b=>a.pure&&b.pure
 | .li r=>r.pure
 | _=>true
theorem nD:∀ {r:Sy} (x:r.den),r.pure=true→(r.enc x).map (T.canon 0)=r.enc x
 | .int _,_,_=>rfl
 | .bool,_,_=>rfl
 | .str,_,_=>rfl
 | .any,_,h=>by simp[Sy.pure] at h
 | .pr a b,x,h=>by
  simp only[Sy.pure,Bool.and_eq_true] at h
  simp only[Sy.enc,List.map_append,nD x.1 h.1,nD x.2 h.2]
 | .li r,_,_=>rfl
theorem BP {r:Sy} (h:r.pure=true) (l:List r.den):fX (List.map r.enc l)=List.map r.enc l:=by
 unfold fX
 rw[List.map_map]
 exact List.map_congr_left fun x _=>nD x h
theorem BV {r:Sy} (h:r.pure=true) (l:List r.den) (K:List r.den→Prop):gR r (List.map r.enc l) K=K l:=by
 apply propext
 constructor
 ·rintro ⟨l',h1,h2⟩
  rw[BP h] at h1
  rw[map_inj (Sy.j9 r) h1];exact h2
 ·exact fun hk=>⟨l,BP h l,hk⟩
theorem dY {S:Type} {F:(S→Prop)→S→Prop} {s:S} (n:Nat) (J:Nat→S→Prop) (h0:J 0 s) (step:∀ (X:S→Prop) (k:Nat) (s:S),k≤n→J k s→(∀ s',k<n→J (k+1) s'→X s')→F X s):eU S F s:=by
 intro X hX
 have key:∀ m k s,n-k<m→k≤n→J k s→X s:=by
  intro m
  induction m with
  | zero=>intro k s h;omega
  | succ m ih=>intro k s hm hk hj;exact hX s (step X k s hk hj fun s' h1 h2=>ih (k+1) s' (by omega) (by omega) h2)
 exact key (n+1) 0 s (by omega) (by omega) h0
end Go.Pv
