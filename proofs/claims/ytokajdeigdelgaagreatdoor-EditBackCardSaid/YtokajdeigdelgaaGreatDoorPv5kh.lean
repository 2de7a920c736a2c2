/-
  The symbolic executor, part h: how one reasons about what it says.
-/
import Derived.Test.YtokajdeigdelgaaGreatDoorPv5kg
import Derived.Test.YtokajdeigdelgaaGreatDoorPv5wo
set_option linter.defProp false
set_option linter.unusedSimpArgs false
namespace Go.Pv
open Go Go.RowKit
def UM:(r:Sy)→r.den→Prop
 | .pr a b,x=>UM a x.1∧UM b x.2
 | .li r,l=>List.length (α:=r.den) l≤2 ^ 47∧∀ y,List.Mem y (show List r.den from l)→UM r y
 | .int _,_=>True
 | .bool,_=>True
 | .str,_=>True
 | .any,_=>True
theorem uA:∀ {r:Sy} {x:r.den},(∀ t∈r.enc x,Bd t)→UM r x
 | .int _,_,_=>trivial
 | .bool,_,_=>trivial
 | .str,_,_=>trivial
 | .any,_,_=>trivial
 | .pr a b,x,h=>⟨uA fun t ht=>h t (by simp only[Sy.enc,List.mem_append];exact .inl ht),uA fun t ht=>h t (by simp only[Sy.enc,List.mem_append];exact .inr ht)⟩
 | .li r,l,h=>by
  have:=(WR _ _).1 (h (.sl false (List.map r.enc l)) (by simp[Sy.enc]))
  exact ⟨by have h1:(List.map r.enc (show List r.den from l)).length≤2 ^ 47:=this.1;rw[List.length_map] at h1;exact h1,fun y hy=>uA fun t ht=>this.2 (r.enc y) (List.mem_map.2 ⟨y,hy,rfl⟩) t ht⟩
theorem IY {ag:Bool} {r:Sy} {x:r.den} (hw:(ag||r.w == 1)=true) (h:Bd (aG ag r x)):UM r x:=by
 cases ag with
 | true=>exact uA ((NA _).1 h)
 | false =>
  have hl:(r.enc x).length=1:=by rw[Sy.cB];simpa using hw
  obtain ⟨u,hu⟩:=List.length_eq_one_iff.1 hl
  refine uA fun t ht=>?_
  rw[hu] at ht
  simp only[aG,hu,SX] at h
  rw[List.mem_singleton.1 ht];exact h
def lX (s:Sh):Bool:=s.all fun x=>x.1||x.2.w == 1
theorem uO {ag:Bool} {r:Sy} (hw:(ag||r.w == 1)=true) {x y:r.den} (h:aG ag r x=aG ag r y):x=y:=by
 cases ag with
 | true=>simp only[aG,T.agg.injEq] at h;exact Sy.iA r _ _ h
 | false =>
  have hx:(r.enc x).length=1:=by rw[Sy.cB];simpa using hw
  have hy:(r.enc y).length=1:=by rw[Sy.cB];simpa using hw
  obtain ⟨u,hu⟩:=List.length_eq_one_iff.1 hx
  obtain ⟨v,hv⟩:=List.length_eq_one_iff.1 hy
  simp only[aG,hu,hv,SX] at h
  exact Sy.iA r _ _ (by rw[hu,hv,h])
theorem uP:∀ {s:Sh},lX s=true→∀ {x y:Sh.den s},Sh.eQ s x=Sh.eQ s y→x=y
 | [],_,_,_,_=>rfl
 | [a],h,x,y,he=>by
  simp only[Sh.eQ,List.cons.injEq] at he
  exact uO (by simpa [lX] using h) he.1
 | a::b::l,h,x,y,he=>by
  have h':(a.1||a.2.w == 1)=true∧lX (b::l)=true:=by
   unfold lX at h ⊢
   rw[List.all_cons,Bool.and_eq_true] at h
   exact h
  simp only[Sh.eQ,List.cons.injEq] at he
  exact Prod.ext (uO h'.1 he.1) (uP h'.2 he.2)
def eZ:(s:Sh)→Sh.den s→Prop
 | [],_=>True
 | [a],x=>UM a.2 x
 | a::b::l,x=>UM a.2 x.1∧eZ (b::l) x.2
theorem BA:∀ {s:Sh},lX s=true→∀ {x:Sh.den s},(∀ t∈Sh.eQ s x,Bd t)→eZ s x
 | [],_,_,_=>trivial
 | [a],h,x,hb=>IY (by simpa [lX] using h) (hb _ (by simp[Sh.eQ]))
 | a::b::l,h,x,hb=>by
  have h':(a.1||a.2.w == 1)=true∧lX (b::l)=true:=by
   unfold lX at h ⊢
   rw[List.all_cons,Bool.and_eq_true] at h
   exact h
  exact ⟨IY h'.1 (hb _ (by simp[Sh.eQ])),BA h'.2 fun t ht=>hb t (by simp only[Sh.eQ,List.mem_cons];exact .inr ht)⟩
open Classical in
noncomputable def gS {α:Type} (s:Sh) (sp:Sh.den s→Option α) (args:List T):Option α:=if h:∃ x,args=Sh.eQ s x then sp (Classical.choose h) else none
theorem cK {α:Type} {s:Sh} (hs:lX s=true) {sp:Sh.den s→Option α} {args:List T} (x:Sh.den s) (h:args=Sh.eQ s x):gS s sp args=sp x:=by
 unfold gS
 have he:∃ x,args=Sh.eQ s x:=⟨x,h⟩
 rw[dif_pos he]
 congr 1
 exact uP hs ((Classical.choose_spec he).symm.trans h)
theorem JC {α:Type} {s:Sh} {sp:Sh.den s→Option α} {args:List T} {r:α} (h:gS s sp args=some r):∃ x,args=Sh.eQ s x∧sp x=some r:=by
 unfold gS at h
 split at h
 ·rename_i he
  exact ⟨_,Classical.choose_spec he,h⟩
 ·cases h
theorem EX {P:Program} {E:Env} {Hs:FuncId→Hint} (hE:aK P E) (hm:P.follows .mixedOrders=true) (hn:bV P=true) (hh:dR E) (k:Nat) {f:FuncId} {s:Sh} {sp:Sh.den s→Option T} (hex:∃ fn c,P.funcs[f]? = some fn∧fn.body=some c) (hs:lX s=true)
  (h:∀ x r,sp x=some r→eZ s x→sB bQ P E Hs k f (Sh.eQ s x) (fun y=>y=r)):aW P f (gS s sp) :=
 zL hE hm hn hh k hex fun args r hg hb=>by
  obtain ⟨x,rfl,hx⟩:=JC hg
  exact h x r hx (BA hs hb)
def T6:List (Nat×LH)→Nat→LH
 | [],_=>.none
 | (a,h)::l,r=>match r == a with
  | true=>h
  | false=>T6 l r
def gC (f:FuncId) (l:List (Nat×LH)) (n:FuncId→Hint):FuncId→Hint:=fun g=>match g == f with
 | true=>⟨T6 l,fun _ _=>none,fun _=>none⟩
 | false=>n g
abbrev RE (P:Program) (f:FuncId) (g:List T→Option T) {A1:Type} (sp:A1→Option T) (B:A1→Prop) (F:A1→(T→Prop)→Prop):Prop:=(∀ (x1:A1) r,sp x1=some r→B x1→F x1 (fun y=>y=r))→aW P f g
abbrev US (P:Program) (f:FuncId) (g:List T→Option T) {A1 A2:Type} (sp:A1×A2→Option T) (B:A1×A2→Prop) (F:A1→A2→(T→Prop)→Prop):Prop:=(∀ (x1:A1) (x2:A2) r,sp (x1,x2)=some r→B (x1,x2)→F x1 x2 (fun y=>y=r))→aW P f g
theorem xX {P:Program} {E:Env} {Hs:FuncId→Hint} {a1:Bool×Sy} {sp:a1.2.den→Option T} {F:a1.2.den→(T→Prop)→Prop} {k:Nat} {f:FuncId} (hE:aK P E) (hm:P.follows .mixedOrders=true) (hn:bV P=true) (hh:dR E) (hex:∃ fn c,P.funcs[f]? = some fn∧fn.body=some c) (hs:lX [a1]=true) (hF:∀ x1 R,sB bQ P E Hs k f (Sh.eQ [a1] x1) R=F x1 R)
  (h:∀ x1 r,sp x1=some r→eZ [a1] x1→F x1 (fun y=>y=r)):aW P f (gS (s:=[a1]) sp) :=
 EX hE hm hn hh k hex hs fun x r h1 h2=>by
  rw[hF]
  exact h x r h1 h2
theorem HV {P:Program} {E:Env} {Hs:FuncId→Hint} {a1 a2:Bool×Sy} {sp:a1.2.den×a2.2.den→Option T} {F:a1.2.den→a2.2.den→(T→Prop)→Prop} {k:Nat} {f:FuncId} (hE:aK P E) (hm:P.follows .mixedOrders=true) (hn:bV P=true) (hh:dR E) (hex:∃ fn c,P.funcs[f]? = some fn∧fn.body=some c) (hs:lX [a1,a2]=true) (hF:∀ x1 x2 R,sB bQ P E Hs k f (Sh.eQ [a1,a2] (x1,x2)) R=F x1 x2 R)
  (h:∀ x1 x2 r,sp (x1,x2)=some r→eZ [a1,a2] (x1,x2)→F x1 x2 (fun y=>y=r)):aW P f (gS (s:=[a1,a2]) sp) :=
 EX hE hm hn hh k hex hs fun x r h1 h2=>by
  obtain ⟨x1,x2⟩:=x
  rw[hF]
  exact h x1 x2 r h1 h2
open Classical in
noncomputable def gA {α X:Type} (A:X→List T) (sp:X→Option α) (args:List T):Option α:=if h:∃ x,args=A x then sp (Classical.choose h) else none
theorem T3 {α X:Type} {A:X→List T} {sp:X→Option α} (hA:∀ x y,A x=A y→x=y) (x:X):gA A sp (A x)=sp x:=by
 unfold gA
 have he:∃ y,A x=A y:=⟨x,rfl⟩
 rw[dif_pos he]
 congr 1
 exact hA _ _ (Classical.choose_spec he).symm
theorem SU {α X:Type} {A:X→List T} {sp:X→Option α} {args:List T} {r:α} (h:gA A sp args=some r):∃ x,args=A x∧sp x=some r:=by
 unfold gA at h
 split at h
 ·rename_i he
  exact ⟨_,Classical.choose_spec he,h⟩
 ·cases h
theorem EW {P:Program} {E:Env} {Hs:FuncId→Hint} (hE:aK P E) (hm:P.follows .mixedOrders=true) (hn:bV P=true) (hh:dR E) (k:Nat) {f:FuncId} {X:Type} {A:X→List T} {sp:X→Option T} (hex:∃ fn c,P.funcs[f]? = some fn∧fn.body=some c)
  (h:∀ x r,sp x=some r→(∀ t∈A x,Bd t)→sB bQ P E Hs k f (A x) (fun y=>y=r)):aW P f (gA A sp) :=
 zL hE hm hn hh k hex fun args r hg hb=>by
  obtain ⟨x,rfl,hx⟩:=SU hg
  exact h x r hx hb
theorem HI (A B:Prop):aE true A B=A:=propext ⟨fun h=>h,fun h=>h⟩
theorem HH (A B:Prop):aE false A B=B:=propext ⟨fun h=>h,fun h=>h⟩
theorem I3 {r:Sy} {l:List r.den} {i:Nat} {y:r.den}:(List.map r.enc l)[i]? = some (r.enc y)↔l[i]? = some y:=by
 rw[List.getElem?_map]
 cases h:l[i]? with
 | none=>simp
 | some z=>simp only[Option.map_some,Option.some.injEq];exact ⟨Sy.iA r _ _,fun e=>by rw[e]⟩
theorem M0 (r:Sy) (l:List r.den) (i:Int) (K:r.den→Prop):cP r (List.map r.enc l) i K = ∃ y,0≤i∧l[i.toNat]? = some y∧K y:=by
 simp only[cP,I3]
theorem iX {r:Sy} {l:List r.den} {k:Nat} (h:k<l.length) (K:r.den→Prop):cP r (List.map r.enc l) (k:Int) K=K l[k]:=by
 rw[M0]
 apply propext
 constructor
 ·rintro ⟨y,_,h1,h2⟩
  rw[Int.toNat_natCast,List.getElem?_eq_getElem h] at h1
  cases h1;exact h2
 ·exact fun hk=>⟨l[k],by omega,by rw[Int.toNat_natCast,List.getElem?_eq_getElem h],hk⟩
theorem P8 {r:Sy} {l:List r.den} {k:Nat} (h:k<l.length) (K:r.den→Prop):r9 r (List.map r.enc l) k 0 K=K l[k]:=by
 unfold r9
 have e:(List.map r.enc l)[k]? = some (r.enc l[k]):=I3.2 (List.getElem?_eq_getElem h)
 have e2:((r.enc l[k]).drop 0).take r.w=r.enc l[k]:=by rw[List.drop_zero,←Sy.cB r l[k],List.take_length]
 apply propext
 constructor
 ·rintro ⟨row,y,h1,_,h2,h3⟩
  rw[e] at h1;cases h1
  rw[e2] at h2
  rw[Sy.iA r _ _ h2];exact h3
 ·exact fun hk=>⟨_,_,e,by rw[Sy.cB];omega,e2,hk⟩
theorem GU:∀ {s:Sh},lX s=true→∀ {x y:Sh.den s},Sh.enc s x=Sh.enc s y→x=y
 | [],_,_,_,_=>rfl
 | [a],h,x,y,he=>uO (by simpa [lX] using h) he
 | a::b::l,h,x,y,he=>by
  simp only[Sh.enc,T.bB.injEq] at he
  exact uP h he
theorem K8 {s:Sh} (hs:lX s=true) (y:Sh.den s) (K:Sh.den s→Prop):aH s (some (Sh.enc s y)) K=K y:=by
 apply propext
 constructor
 ·rintro ⟨z,h1,h2⟩
  rw[GU hs (Option.some.inj h1)];exact h2
 ·exact fun hk=>⟨y,rfl,hk⟩
theorem aT {s:Sh} {a:Option T} {y:Sh.den s} {K:Sh.den s→Prop} (h:a=some (Sh.enc s y)) (hk:K y):aH s a K:=⟨y,h,hk⟩
def Sy.pure:Sy→Bool
 | .any=>false
 | .pr a b=>a.pure&&b.pure
 | .li r=>r.pure
 | _=>true
theorem oD:∀ {r:Sy} (x:r.den),r.pure=true→(r.enc x).map (T.canon 0)=r.enc x
 | .int _,_,_=>rfl
 | .bool,_,_=>rfl
 | .str,_,_=>rfl
 | .any,_,h=>by simp[Sy.pure] at h
 | .pr a b,x,h=>by
  simp only[Sy.pure,Bool.and_eq_true] at h
  simp only[Sy.enc,List.map_append,oD x.1 h.1,oD x.2 h.2]
 | .li r,_,_=>rfl
theorem DK {r:Sy} (h:r.pure=true) (l:List r.den):eO (List.map r.enc l)=List.map r.enc l:=by
 unfold eO
 rw[List.map_map]
 exact List.map_congr_left fun x _=>oD x h
theorem DJ (a b:List (List T)):eO (a++b)=eO a++eO b:=by simp[eO]
theorem DQ {r:Sy} (h:r.pure=true) (l:List r.den) (K:List r.den→Prop):eB r (List.map r.enc l) K=K l:=by
 apply propext
 constructor
 ·rintro ⟨l',h1,h2⟩
  rw[DK h] at h1
  rw[map_inj (Sy.iA r) h1];exact h2
 ·exact fun hk=>⟨l,DK h l,hk⟩
theorem e7 {S:Type} {F:(S→Prop)→S→Prop} {s:S} (n:Nat) (J:Nat→S→Prop) (h0:J 0 s) (step:∀ (X:S→Prop) (k:Nat) (s:S),k≤n→J k s→(∀ s',k<n→J (k+1) s'→X s')→F X s):c9 S F s:=by
 intro X hX
 have key:∀ m k s,n-k<m→k≤n→J k s→X s:=by
  intro m
  induction m with
  | zero=>intro k s h;omega
  | succ m ih=>intro k s hm hk hj;exact hX s (step X k s hk hj fun s' h1 h2=>ih (k+1) s' (by omega) (by omega) h2)
 exact key (n+1) 0 s (by omega) (by omega) h0
end Go.Pv
