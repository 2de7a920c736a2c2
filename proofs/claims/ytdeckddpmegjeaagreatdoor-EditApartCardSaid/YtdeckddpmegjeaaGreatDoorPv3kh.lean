/-
  The symbolic executor, part h: how one reasons about what it says.
-/
import Derived.Test.YtdeckddpmegjeaaGreatDoorPv3kg
import Derived.Test.YtdeckddpmegjeaaGreatDoorPv3wo
set_option linter.defProp false
set_option linter.unusedSimpArgs false
namespace Go.Pv
open Go Go.RowKit
def BdS:(r:Sy)→r.den→Prop
 | .pr a b,x=>BdS a x.1∧BdS b x.2
 | .li r,l=>List.length (α:=r.den) l≤2 ^ 47∧∀ y,List.Mem y (show List r.den from l)→BdS r y
 | .int _,_=>True
 | .bool,_=>True
 | .str,_=>True
 | .any,_=>True
theorem KK:∀ {r:Sy} {x:r.den},(∀ t∈r.enc x,Bd t)→BdS r x
 | .int _,_,_=>trivial
 | .bool,_,_=>trivial
 | .str,_,_=>trivial
 | .any,_,_=>trivial
 | .pr a b,x,h=>⟨KK fun t ht=>h t (by simp only[Sy.enc,List.mem_append];exact .inl ht),KK fun t ht=>h t (by simp only[Sy.enc,List.mem_append];exact .inr ht)⟩
 | .li r,l,h=>by
  have:=(A43 _ _).1 (h (.sl false (List.map r.enc l)) (by simp[Sy.enc]))
  exact ⟨by have h1:(List.map r.enc (show List r.den from l)).length≤2 ^ 47:=this.1;rw[List.length_map] at h1;exact h1,fun y hy=>KK fun t ht=>this.2 (r.enc y) (List.mem_map.2 ⟨y,hy,rfl⟩) t ht⟩
theorem AHL {ag:Bool} {r:Sy} {x:r.den} (hw:(ag||r.w == 1)=true) (h:Bd (aI ag r x)):BdS r x:=by
 cases ag with
 | true=>exact KK ((A6D _).1 h)
 | false =>
  have hl:(r.enc x).length=1:=by rw[Sy.cV];simpa using hw
  obtain ⟨u,hu⟩:=List.length_eq_one_iff.1 hl
  refine KK fun t ht=>?_
  rw[hu] at ht
  simp only[aI,hu,hdT] at h
  rw[List.mem_singleton.1 ht];exact h
def rO (s:Sh):Bool:=s.all fun x=>x.1||x.2.w == 1
theorem bS {ag:Bool} {r:Sy} (hw:(ag||r.w == 1)=true) {x y:r.den} (h:aI ag r x=aI ag r y):x=y:=by
 cases ag with
 | true=>simp only[aI,T.agg.injEq] at h;exact Sy.dH r _ _ h
 | false =>
  have hx:(r.enc x).length=1:=by rw[Sy.cV];simpa using hw
  have hy:(r.enc y).length=1:=by rw[Sy.cV];simpa using hw
  obtain ⟨u,hu⟩:=List.length_eq_one_iff.1 hx
  obtain ⟨v,hv⟩:=List.length_eq_one_iff.1 hy
  simp only[aI,hu,hv,hdT] at h
  exact Sy.dH r _ _ (by rw[hu,hv,h])
theorem KY:∀ {s:Sh},rO s=true→∀ {x y:Sh.den s},Sh.lI s x=Sh.lI s y→x=y
 | [],_,_,_,_=>rfl
 | [a],h,x,y,he=>by
  simp only[Sh.lI,List.cons.injEq] at he
  exact bS (by simpa [rO] using h) he.1
 | a::b::l,h,x,y,he=>by
  have h':(a.1||a.2.w == 1)=true∧rO (b::l)=true:=by
   unfold rO at h ⊢
   rw[List.all_cons,Bool.and_eq_true] at h
   exact h
  simp only[Sh.lI,List.cons.injEq] at he
  exact Prod.ext (bS h'.1 he.1) (KY h'.2 he.2)
def cD:(s:Sh)→Sh.den s→Prop
 | [],_=>True
 | [a],x=>BdS a.2 x
 | a::b::l,x=>BdS a.2 x.1∧cD (b::l) x.2
theorem IL:∀ {s:Sh},rO s=true→∀ {x:Sh.den s},(∀ t∈Sh.lI s x,Bd t)→cD s x
 | [],_,_,_=>trivial
 | [a],h,x,hb=>AHL (by simpa [rO] using h) (hb _ (by simp[Sh.lI]))
 | a::b::l,h,x,hb=>by
  have h':(a.1||a.2.w == 1)=true∧rO (b::l)=true:=by
   unfold rO at h ⊢
   rw[List.all_cons,Bool.and_eq_true] at h
   exact h
  exact ⟨AHL h'.1 (hb _ (by simp[Sh.lI])),IL h'.2 fun t ht=>hb t (by simp only[Sh.lI,List.mem_cons];exact .inr ht)⟩
open Classical in
noncomputable def gS {α:Type} (s:Sh) (sp:Sh.den s→Option α) (args:List T):Option α:=if h:∃ x,args=Sh.lI s x then sp (Classical.choose h) else none
theorem bG {α:Type} {s:Sh} (hs:rO s=true) {sp:Sh.den s→Option α} {args:List T} (x:Sh.den s) (h:args=Sh.lI s x):gS s sp args=sp x:=by
 unfold gS
 have he:∃ x,args=Sh.lI s x:=⟨x,h⟩
 rw[dif_pos he]
 congr 1
 exact KY hs ((Classical.choose_spec he).symm.trans h)
theorem xT {α:Type} {s:Sh} {sp:Sh.den s→Option α} {args:List T} {r:α} (h:gS s sp args=some r):∃ x,args=Sh.lI s x∧sp x=some r:=by
 unfold gS at h
 split at h
 ·rename_i he
  exact ⟨_,Classical.choose_spec he,h⟩
 ·cases h
theorem CZ {P:Program} {E:Env} {Hs:FuncId→Hint} (hE:aT P E) (hm:P.follows .mixedOrders=true) (hn:cG P=true) (hh:fF E) (k:Nat) {f:FuncId} {s:Sh} {sp:Sh.den s→Option T} (hex:∃ fn c,P.funcs[f]? = some fn∧fn.body=some c) (hs:rO s=true)
  (h:∀ x r,sp x=some r→cD s x→dW bW P E Hs k f (Sh.lI s x) (fun y=>y=r)):aO P f (gS s sp) :=
 E6 hE hm hn hh k hex fun args r hg hb=>by
  obtain ⟨x,rfl,hx⟩:=xT hg
  exact h x r hx (IL hs hb)
theorem A3X {P:Program} {E:Env} {Hs:FuncId→Hint} (hE:aT P E) (hm:P.follows .mixedOrders=true) (hn:cG P=true) (hh:fF E) (k:Nat) {f:FuncId} {s:Sh} {sp:Sh.den s→Option T} (hex:∃ fn c,P.funcs[f]? = some fn∧fn.body=some c) (hs:rO s=true)
  (h:∀ x r,sp x=some r→cD s x→uS bW P E Hs k f (Sh.lI s x) (fun y=>y=r)):j5 P f (gS s sp) :=
 Z3 hE hm hn hh k hex fun args r hg hb=>by
  obtain ⟨x,rfl,hx⟩:=xT hg
  exact h x r hx (IL hs hb)
theorem AX6 {P:Program} {E:Env} {Hs:FuncId→Hint} (hE:aT P E) (hm:P.follows .mixedOrders=true) (hn:cG P=true) (hh:fF E) (k:Nat) {f:FuncId} {ci:Nat} {s:Sh} {sp:Sh.den s→Option T} (hex:∃ fn c,P.funcs[f]? = some fn∧fn.body=some c) (hs:rO s=true)
  (h:∀ x r,sp x=some r→cD s x→VJ bW P E Hs k ci f (Sh.lI s x) (fun y=>y=r)):J6 P f ci (gS s sp) :=
 AOR hE hm hn hh k hex fun args r hg hb=>by
  obtain ⟨x,rfl,hx⟩:=xT hg
  exact h x r hx (IL hs hb)
def A5Z:List (Nat×LH)→Nat→LH
 | [],_=>.none
 | (a,h)::l,r=>match r == a with
  | true=>h
  | false=>A5Z l r
def bX (f:FuncId) (l:List (Nat×LH)) (n:FuncId→Hint):FuncId→Hint:=fun g=>match g == f with
 | true=>⟨A5Z l,fun _ _=>none,fun _=>none⟩
 | false=>n g
abbrev vF (P:Program) (f:FuncId) (g:List T→Option T) {A1:Type} (sp:A1→Option T) (B:A1→Prop) (F:A1→(T→Prop)→Prop):Prop:=(∀ (x1:A1) r,sp x1=some r→B x1→F x1 (fun y=>y=r))→aO P f g
abbrev rQ (P:Program) (f:FuncId) (g:List T→Option T) {A1 A2:Type} (sp:A1×A2→Option T) (B:A1×A2→Prop) (F:A1→A2→(T→Prop)→Prop):Prop:=(∀ (x1:A1) (x2:A2) r,sp (x1,x2)=some r→B (x1,x2)→F x1 x2 (fun y=>y=r))→aO P f g
abbrev Of3 (P:Program) (f:FuncId) (g:List T→Option T) {A1 A2 A3:Type} (sp:A1×A2×A3→Option T) (B:A1×A2×A3→Prop) (F:A1→A2→A3→(T→Prop)→Prop):Prop:=(∀ (x1:A1) (x2:A2) (x3:A3) r,sp (x1,x2,x3)=some r→B (x1,x2,x3)→F x1 x2 x3 (fun y=>y=r))→aO P f g
abbrev Of4 (P:Program) (f:FuncId) (g:List T→Option T) {A1 A2 A3 A4:Type} (sp:A1×A2×A3×A4→Option T) (B:A1×A2×A3×A4→Prop) (F:A1→A2→A3→A4→(T→Prop)→Prop):Prop:=(∀ (x1:A1) (x2:A2) (x3:A3) (x4:A4) r,sp (x1,x2,x3,x4)=some r→B (x1,x2,x3,x4)→F x1 x2 x3 x4 (fun y=>y=r))→aO P f g
theorem jJ {P:Program} {E:Env} {Hs:FuncId→Hint} {a1:Bool×Sy} {sp:a1.2.den→Option T} {F:a1.2.den→(T→Prop)→Prop} {k:Nat} {f:FuncId} (hE:aT P E) (hm:P.follows .mixedOrders=true) (hn:cG P=true) (hh:fF E) (hex:∃ fn c,P.funcs[f]? = some fn∧fn.body=some c) (hs:rO [a1]=true) (hF:∀ x1 R,dW bW P E Hs k f (Sh.lI [a1] x1) R=F x1 R)
  (h:∀ x1 r,sp x1=some r→cD [a1] x1→F x1 (fun y=>y=r)):aO P f (gS (s:=[a1]) sp) :=
 CZ hE hm hn hh k hex hs fun x r h1 h2=>by
  rw[hF]
  exact h x r h1 h2
theorem gZ {P:Program} {E:Env} {Hs:FuncId→Hint} {a1 a2:Bool×Sy} {sp:a1.2.den×a2.2.den→Option T} {F:a1.2.den→a2.2.den→(T→Prop)→Prop} {k:Nat} {f:FuncId} (hE:aT P E) (hm:P.follows .mixedOrders=true) (hn:cG P=true) (hh:fF E) (hex:∃ fn c,P.funcs[f]? = some fn∧fn.body=some c) (hs:rO [a1,a2]=true) (hF:∀ x1 x2 R,dW bW P E Hs k f (Sh.lI [a1,a2] (x1,x2)) R=F x1 x2 R)
  (h:∀ x1 x2 r,sp (x1,x2)=some r→cD [a1,a2] (x1,x2)→F x1 x2 (fun y=>y=r)):aO P f (gS (s:=[a1,a2]) sp) :=
 CZ hE hm hn hh k hex hs fun x r h1 h2=>by
  obtain ⟨x1,x2⟩:=x
  rw[hF]
  exact h x1 x2 r h1 h2
theorem AFI {P:Program} {E:Env} {Hs:FuncId→Hint} {a1 a2 a3:Bool×Sy} {sp:a1.2.den×a2.2.den×a3.2.den→Option T} {F:a1.2.den→a2.2.den→a3.2.den→(T→Prop)→Prop} {k:Nat} {f:FuncId} (hE:aT P E) (hm:P.follows .mixedOrders=true) (hn:cG P=true) (hh:fF E) (hex:∃ fn c,P.funcs[f]? = some fn∧fn.body=some c) (hs:rO [a1,a2,a3]=true) (hF:∀ x1 x2 x3 R,dW bW P E Hs k f (Sh.lI [a1,a2,a3] (x1,x2,x3)) R=F x1 x2 x3 R)
  (h:∀ x1 x2 x3 r,sp (x1,x2,x3)=some r→cD [a1,a2,a3] (x1,x2,x3)→F x1 x2 x3 (fun y=>y=r)):aO P f (gS (s:=[a1,a2,a3]) sp) :=
 CZ hE hm hn hh k hex hs fun x r h1 h2=>by
  obtain ⟨x1,x2,x3⟩:=x
  rw[hF]
  exact h x1 x2 x3 r h1 h2
theorem BDT {P:Program} {E:Env} {Hs:FuncId→Hint} {a1 a2 a3 a4:Bool×Sy} {sp:a1.2.den×a2.2.den×a3.2.den×a4.2.den→Option T} {F:a1.2.den→a2.2.den→a3.2.den→a4.2.den→(T→Prop)→Prop} {k:Nat} {f:FuncId} (hE:aT P E) (hm:P.follows .mixedOrders=true) (hn:cG P=true) (hh:fF E) (hex:∃ fn c,P.funcs[f]? = some fn∧fn.body=some c) (hs:rO [a1,a2,a3,a4]=true) (hF:∀ x1 x2 x3 x4 R,dW bW P E Hs k f (Sh.lI [a1,a2,a3,a4] (x1,x2,x3,x4)) R=F x1 x2 x3 x4 R)
  (h:∀ x1 x2 x3 x4 r,sp (x1,x2,x3,x4)=some r→cD [a1,a2,a3,a4] (x1,x2,x3,x4)→F x1 x2 x3 x4 (fun y=>y=r)):aO P f (gS (s:=[a1,a2,a3,a4]) sp) :=
 CZ hE hm hn hh k hex hs fun x r h1 h2=>by
  obtain ⟨x1,x2,x3,x4⟩:=x
  rw[hF]
  exact h x1 x2 x3 x4 r h1 h2
open Classical in
noncomputable def gA {α X:Type} (A:X→List T) (sp:X→Option α) (args:List T):Option α:=if h:∃ x,args=A x then sp (Classical.choose h) else none
theorem fA {α X:Type} {A:X→List T} {sp:X→Option α} (hA:∀ x y,A x=A y→x=y) (x:X):gA A sp (A x)=sp x:=by
 unfold gA
 have he:∃ y,A x=A y:=⟨x,rfl⟩
 rw[dif_pos he]
 congr 1
 exact hA _ _ (Classical.choose_spec he).symm
theorem TA {α X:Type} {A:X→List T} {sp:X→Option α} {args:List T} {r:α} (h:gA A sp args=some r):∃ x,args=A x∧sp x=some r:=by
 unfold gA at h
 split at h
 ·rename_i he
  exact ⟨_,Classical.choose_spec he,h⟩
 ·cases h
theorem cP {P:Program} {E:Env} {Hs:FuncId→Hint} (hE:aT P E) (hm:P.follows .mixedOrders=true) (hn:cG P=true) (hh:fF E) (k:Nat) {f:FuncId} {X:Type} {A:X→List T} {sp:X→Option T} (hex:∃ fn c,P.funcs[f]? = some fn∧fn.body=some c)
  (h:∀ x r,sp x=some r→(∀ t∈A x,Bd t)→dW bW P E Hs k f (A x) (fun y=>y=r)):aO P f (gA A sp) :=
 E6 hE hm hn hh k hex fun args r hg hb=>by
  obtain ⟨x,rfl,hx⟩:=TA hg
  exact h x r hx hb
theorem B3 {P:Program} {E:Env} {Hs:FuncId→Hint} (hE:aT P E) (hm:P.follows .mixedOrders=true) (hn:cG P=true) (hh:fF E) (k:Nat) {f:FuncId} {X:Type} {A:X→List T} {sp:X→Option (List (ByteArray×Int))} (hex:∃ fn c,P.funcs[f]? = some fn∧fn.body=some c)
  (h:∀ x r,sp x=some r→(∀ t∈A x,Bd t)→uS bW P E Hs k f (A x) (fun y=>y = .mp (bL r))):j5 P f (rH (gA A sp)) :=
 Z3 hE hm hn hh k hex fun args r hg hb=>by
  unfold rH at hg
  simp only[Option.map_eq_some_iff] at hg
  obtain ⟨es,hg,rfl⟩:=hg
  obtain ⟨x,rfl,hx⟩:=TA hg
  exact h x es hx hb
theorem kH (A B:Prop):aC true A B=A:=propext ⟨fun h=>h,fun h=>h⟩
theorem oE (A B:Prop):aC false A B=B:=propext ⟨fun h=>h,fun h=>h⟩
theorem ZK (b:Bool) (A B:Prop):aC b A B=if b=true then A else B:=by cases b<;>rfl
theorem AYM (b:Bool) (K:Prop):bN b K=(b=true∧K):=rfl
theorem cZ (x:bC) (K:Prop):fZ x x K=K:=by simp[fZ]
theorem x6 (S:Type) (A:(S→Prop)→Prop) (K:S→Prop):qU S A K=A K:=rfl
theorem xO {r:Sy} {l:List r.den} {i:Nat} {y:r.den}:(List.map r.enc l)[i]? = some (r.enc y)↔l[i]? = some y:=by
 rw[List.getElem?_map]
 cases h:l[i]? with
 | none=>simp
 | some z=>simp only[Option.map_some,Option.some.injEq];exact ⟨Sy.dH r _ _,fun e=>by rw[e]⟩
theorem AO0 (r:Sy) (l:List r.den) (i:Int) (K:r.den→Prop):aR r (List.map r.enc l) i K = ∃ y,0≤i∧l[i.toNat]? = some y∧K y:=by
 simp only[aR,xO]
theorem bH {r:Sy} {l:List r.den} {k:Nat} (h:k<l.length) (K:r.den→Prop):aR r (List.map r.enc l) (k:Int) K=K l[k]:=by
 rw[AO0]
 apply propext
 constructor
 ·rintro ⟨y,_,h1,h2⟩
  rw[Int.toNat_natCast,List.getElem?_eq_getElem h] at h1
  cases h1;exact h2
 ·exact fun hk=>⟨l[k],by omega,by rw[Int.toNat_natCast,List.getElem?_eq_getElem h],hk⟩
theorem oY {r:Sy} {l:List r.den} {k:Nat} (h:k<l.length) (K:List T→Prop):C3 (List.map r.enc l) k K=K (r.enc l[k]):=by
 unfold C3
 have e:(List.map r.enc l)[k]? = some (r.enc l[k]):=xO.2 (List.getElem?_eq_getElem h)
 apply propext
 constructor
 ·rintro ⟨y,h1,h2⟩
  rw[e] at h1;cases h1;exact h2
 ·exact fun hk=>⟨_,e,hk⟩
theorem iC {r:Sy} {l:List r.den} {k:Nat} (h:k<l.length) (K:r.den→Prop):eU r (List.map r.enc l) k 0 K=K l[k]:=by
 unfold eU
 have e:(List.map r.enc l)[k]? = some (r.enc l[k]):=xO.2 (List.getElem?_eq_getElem h)
 have e2:((r.enc l[k]).drop 0).take r.w=r.enc l[k]:=by rw[List.drop_zero,←Sy.cV r l[k],List.take_length]
 apply propext
 constructor
 ·rintro ⟨row,y,h1,_,h2,h3⟩
  rw[e] at h1;cases h1
  rw[e2] at h2
  rw[Sy.dH r _ _ h2];exact h3
 ·exact fun hk=>⟨_,_,e,by rw[Sy.cV];omega,e2,hk⟩
theorem ADY:∀ {s:Sh},rO s=true→∀ {x y:Sh.den s},Sh.enc s x=Sh.enc s y→x=y
 | [],_,_,_,_=>rfl
 | [a],h,x,y,he=>bS (by simpa [rO] using h) he
 | a::b::l,h,x,y,he=>by
  simp only[Sh.enc,T.cA.injEq] at he
  exact KY h he
theorem xJ {s:Sh} (hs:rO s=true) (y:Sh.den s) (K:Sh.den s→Prop):aJ s (some (Sh.enc s y)) K=K y:=by
 apply propext
 constructor
 ·rintro ⟨z,h1,h2⟩
  rw[ADY hs (Option.some.inj h1)];exact h2
 ·exact fun hk=>⟨y,rfl,hk⟩
theorem dO {r:Sy} {a:Option (List (List T))} {l:List r.den} (h:a=some (List.map r.enc l)) (K:List r.den→Prop) (hk:K l):bP r a K:=⟨l,h,hk⟩
theorem C6 {r:Sy} {l:List r.den} {k:Nat} (h:k<l.length):(List.map r.enc l).set k (r.enc l[k])=List.map r.enc l:=by
 have:(List.map r.enc l)[k]'(by simpa using h)=r.enc l[k]:=by simp
 rw[←this,List.set_getElem_self]
theorem o5 {α:Type} {p:α→Bool} {l:List α} {k:Nat} (h:k<l.length):(l.drop k).find? p=if p l[k]=true then some l[k] else (l.drop (k+1)).find? p:=by
 rw[List.drop_eq_getElem_cons h,List.find?_cons]
 cases p l[k]<;>rfl
theorem aG {s:Sh} {a:Option T} {y:Sh.den s} {K:Sh.den s→Prop} (h:a=some (Sh.enc s y)) (hk:K y):aJ s a K:=⟨y,h,hk⟩
def Sy.pure:Sy→Bool
 | .any=>false
 | .pr a b=>a.pure&&b.pure
 | .li r=>r.pure
 | _=>true
theorem AJ:∀ {r:Sy} (x:r.den),r.pure=true→(r.enc x).map (T.canon 0)=r.enc x
 | .int _,_,_=>rfl
 | .bool,_,_=>rfl
 | .str,_,_=>rfl
 | .any,_,h=>by simp[Sy.pure] at h
 | .pr a b,x,h=>by
  simp only[Sy.pure,Bool.and_eq_true] at h
  simp only[Sy.enc,List.map_append,AJ x.1 h.1,AJ x.2 h.2]
 | .li r,_,_=>rfl
theorem KP {r:Sy} (h:r.pure=true) (l:List r.den):jW (List.map r.enc l)=List.map r.enc l:=by
 unfold jW
 rw[List.map_map]
 exact List.map_congr_left fun x _=>AJ x h
theorem W7 (a b:List (List T)):jW (a++b)=jW a++jW b:=by simp[jW]
theorem dR {r:Sy} (h:r.pure=true) (l:List r.den) (K:List r.den→Prop):lT r (List.map r.enc l) K=K l:=by
 apply propext
 constructor
 ·rintro ⟨l',h1,h2⟩
  rw[KP h] at h1
  rw[map_inj (Sy.dH r) h1];exact h2
 ·exact fun hk=>⟨l,KP h l,hk⟩
theorem AT3 {r:Sy} (K:List r.den→Prop):lT r [] K=K []:=by
 apply propext
 constructor
 ·rintro ⟨l',h1,h2⟩
  cases l' with
  | nil=>exact h2
  | cons a l=>simp[jW] at h1
 ·exact fun hk=>⟨[],rfl,hk⟩
theorem D8 {r:Sy} (h:r.pure=true) (l:List r.den) (row:List T) (y:r.den) (hy:row.map (T.canon 0)=r.enc y) (K:List r.den→Prop):lT r (List.map r.enc l++[row]) K=K (l++[y]):=by
 have e:jW (List.map r.enc l++[row])=List.map r.enc (l++[y]):=by
  rw[W7,KP h,List.map_append]
  simp[jW,hy]
 apply propext
 constructor
 ·rintro ⟨l',h1,h2⟩
  rw[e] at h1
  rw[map_inj (Sy.dH r) h1];exact h2
 ·exact fun hk=>⟨_,e,hk⟩
theorem bM {S:Type} {F:(S→Prop)→S→Prop} {s:S} (n:Nat) (J:Nat→S→Prop) (h0:J 0 s) (step:∀ (X:S→Prop) (k:Nat) (s:S),k≤n→J k s→(∀ s',k<n→J (k+1) s'→X s')→F X s):bA S F s:=by
 intro X hX
 have key:∀ m k s,n-k<m→k≤n→J k s→X s:=by
  intro m
  induction m with
  | zero=>intro k s h;omega
  | succ m ih=>intro k s hm hk hj;exact hX s (step X k s hk hj fun s' h1 h2=>ih (k+1) s' (by omega) (by omega) h2)
 exact key (n+1) 0 s (by omega) (by omega) h0
theorem E0 {α:Type} {l:List α} {k:Nat}:decide ((k:Int)<(l.length:Int))=decide (k<l.length):=by simp
end Go.Pv
