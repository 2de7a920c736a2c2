/-
  The symbolic executor, part h: how one reasons about what it says.
-/
import Derived.Test.YtjledgajjgkbhaaGreatDoorVapkg
import Derived.Test.YtjledgajjgkbhaaGreatDoorVapwo
set_option linter.defProp false
set_option linter.unusedSimpArgs false
namespace Go.Pv
open Go Go.RowKit
def BdS:(r:Sy)→r.den→Prop
 | .pr a b,x=>BdS a x.1∧BdS b x.2
 | .li r,l=>List.length (α:=r.den) l≤2 ^ 47∧∀ y,List.Mem y (show List r.den from l)→BdS r y
 | .int _,_=>True
 | .bool,_=>True
 | .str,_=>True
 | .any,_=>True
theorem NB:∀ {r:Sy} {x:r.den},(∀ t∈r.enc x,Bd t)→BdS r x
 | .int _,_,_=>trivial
 | .bool,_,_=>trivial
 | .str,_,_=>trivial
 | .any,_,_=>trivial
 | .pr a b,x,h=>⟨NB fun t ht=>h t (by simp only[Sy.enc,List.mem_append];exact .inl ht),NB fun t ht=>h t (by simp only[Sy.enc,List.mem_append];exact .inr ht)⟩
 | .li r,l,h=>by
  have:=(A7M _ _).1 (h (.sl false (List.map r.enc l)) (by simp[Sy.enc]))
  exact ⟨by have h1:(List.map r.enc (show List r.den from l)).length≤2 ^ 47:=this.1;rw[List.length_map] at h1;exact h1,fun y hy=>NB fun t ht=>this.2 (r.enc y) (List.mem_map.2 ⟨y,hy,rfl⟩) t ht⟩
theorem ALG {ag:Bool} {r:Sy} {x:r.den} (hw:(ag||r.w == 1)=true) (h:Bd (aF ag r x)):BdS r x:=by
 cases ag with
 | true=>exact NB ((LQ _).1 h)
 | false =>
  have hl:(r.enc x).length=1:=by rw[Sy.cP];simpa using hw
  obtain ⟨u,hu⟩:=List.length_eq_one_iff.1 hl
  refine NB fun t ht=>?_
  simp only[aF,hu,hdT] at h
  simp_all
def rA (s:Sh):Bool:=s.all fun x=>x.1||x.2.w == 1
theorem mN {ag:Bool} {r:Sy} (hw:(ag||r.w == 1)=true) {x y:r.den} (h:aF ag r x=aF ag r y):x=y:=by
 cases ag with
 | true=>simp only[aF,T.agg.injEq] at h;exact Sy.dH r _ _ h
 | false =>
  have hx:(r.enc x).length=1:=by rw[Sy.cP];simpa using hw
  have hy:(r.enc y).length=1:=by rw[Sy.cP];simpa using hw
  obtain ⟨u,hu⟩:=List.length_eq_one_iff.1 hx
  obtain ⟨v,hv⟩:=List.length_eq_one_iff.1 hy
  simp only[aF,hu,hv,hdT] at h
  exact Sy.dH r _ _ (by rw[hu,hv,h])
theorem NP:∀ {s:Sh},rA s=true→∀ {x y:Sh.den s},Sh.iH s x=Sh.iH s y→x=y
 | [],_,_,_,_=>rfl
 | [a],h,x,y,he=>by
  simp only[Sh.iH,List.cons.injEq] at he
  exact mN (by simpa [rA] using h) he.1
 | a::b::l,h,x,y,he=>by
  have h':(a.1||a.2.w == 1)=true∧rA (b::l)=true:=by
   unfold rA at h ⊢
   simp_all
  simp only[Sh.iH,List.cons.injEq] at he
  exact Prod.ext (mN h'.1 he.1) (NP h'.2 he.2)
def cC:(s:Sh)→Sh.den s→Prop
 | [],_=>True
 | [a],x=>BdS a.2 x
 | a::b::l,x=>BdS a.2 x.1∧cC (b::l) x.2
theorem o6:∀ {s:Sh},rA s=true→∀ {x:Sh.den s},(∀ t∈Sh.iH s x,Bd t)→cC s x
 | [],_,_,_=>trivial
 | [a],h,x,hb=>ALG (by simpa [rA] using h) (hb _ (by simp[Sh.iH]))
 | a::b::l,h,x,hb=>by
  have h':(a.1||a.2.w == 1)=true∧rA (b::l)=true:=by
   unfold rA at h ⊢
   simp_all
  exact ⟨ALG h'.1 (hb _ (by simp[Sh.iH])),o6 h'.2 fun t ht=>hb t (by simp only[Sh.iH,List.mem_cons];exact .inr ht)⟩
open Classical in
noncomputable def gS {α:Type} (s:Sh) (sp:Sh.den s→Option α) (args:List T):Option α:=if h:∃ x,args=Sh.iH s x then sp (Classical.choose h) else none
theorem bE {α:Type} {s:Sh} (hs:rA s=true) {sp:Sh.den s→Option α} {args:List T} (x:Sh.den s) (h:args=Sh.iH s x):gS s sp args=sp x:=by
 unfold gS
 have he:∃ x,args=Sh.iH s x:=⟨x,h⟩
 rw[dif_pos he]
 congr 1
 exact NP hs ((Classical.choose_spec he).symm.trans h)
theorem mQ {α:Type} {s:Sh} {sp:Sh.den s→Option α} {args:List T} {r:α} (h:gS s sp args=some r):∃ x,args=Sh.iH s x∧sp x=some r:=by
 unfold gS at h
 split at h
 ·grind
 ·cases h
theorem FO {P:Program} {E:Env} {Hs:FuncId→Hint} (hE:aT P E) (hm:P.follows .mixedOrders=true) (hn:cE P=true) (hh:eH E) (k:Nat) {f:FuncId} {s:Sh} {sp:Sh.den s→Option T} (hex:∃ fn c,P.funcs[f]? = some fn∧fn.body=some c) (hs:rA s=true)
  (h:∀ x r,sp x=some r→cC s x→dY bR P E Hs k f (Sh.iH s x) (fun y=>y=r)):aN P f (gS s sp) :=
 H7 hE hm hn hh k hex fun args r hg hb=>by
  obtain ⟨x,rfl,hx⟩:=mQ hg
  exact h x r hx (o6 hs hb)
theorem A57 {P:Program} {E:Env} {Hs:FuncId→Hint} (hE:aT P E) (hm:P.follows .mixedOrders=true) (hn:cE P=true) (hh:eH E) (k:Nat) {f:FuncId} {s:Sh} {sp:Sh.den s→Option T} (hex:∃ fn c,P.funcs[f]? = some fn∧fn.body=some c) (hs:rA s=true)
  (h:∀ x r,sp x=some r→cC s x→wD bR P E Hs k f (Sh.iH s x) (fun y=>y=r)):kP P f (gS s sp) :=
 ADO hE hm hn hh k hex fun args r hg hb=>by
  obtain ⟨x,rfl,hx⟩:=mQ hg
  exact h x r hx (o6 hs hb)
theorem A1E {P:Program} {E:Env} {Hs:FuncId→Hint} (hE:aT P E) (hm:P.follows .mixedOrders=true) (hn:cE P=true) (hh:eH E) (k:Nat) {f:FuncId} {ci:Nat} {s:Sh} {sp:Sh.den s→Option T} (hex:∃ fn c,P.funcs[f]? = some fn∧fn.body=some c) (hs:rA s=true)
  (h:∀ x r,sp x=some r→cC s x→YP bR P E Hs k ci f (Sh.iH s x) (fun y=>y=r)):MY P f ci (gS s sp) :=
 ASH hE hm hn hh k hex fun args r hg hb=>by
  obtain ⟨x,rfl,hx⟩:=mQ hg
  exact h x r hx (o6 hs hb)
def AMA:List (Nat×LH)→Nat→LH
 | [],_=>.none
 | (a,h)::l,r=>match r == a with
  | true=>h
  | false=>AMA l r
def bX (f:FuncId) (l:List (Nat×LH)) (n:FuncId→Hint):FuncId→Hint:=fun g=>match g == f with
 | true=>⟨AMA l,fun _ _=>none,fun _=>none⟩
 | false=>n g
abbrev uH (P:Program) (f:FuncId) (g:List T→Option T) {A1:Type} (sp:A1→Option T) (B:A1→Prop) (F:A1→(T→Prop)→Prop):Prop:=(∀ (x1:A1) r,sp x1=some r→B x1→F x1 (fun y=>y=r))→aN P f g
abbrev r8 (P:Program) (f:FuncId) (g:List T→Option T) {A1 A2:Type} (sp:A1×A2→Option T) (B:A1×A2→Prop) (F:A1→A2→(T→Prop)→Prop):Prop:=(∀ (x1:A1) (x2:A2) r,sp (x1,x2)=some r→B (x1,x2)→F x1 x2 (fun y=>y=r))→aN P f g
abbrev Of3 (P:Program) (f:FuncId) (g:List T→Option T) {A1 A2 A3:Type} (sp:A1×A2×A3→Option T) (B:A1×A2×A3→Prop) (F:A1→A2→A3→(T→Prop)→Prop):Prop:=(∀ (x1:A1) (x2:A2) (x3:A3) r,sp (x1,x2,x3)=some r→B (x1,x2,x3)→F x1 x2 x3 (fun y=>y=r))→aN P f g
abbrev Of4 (P:Program) (f:FuncId) (g:List T→Option T) {A1 A2 A3 A4:Type} (sp:A1×A2×A3×A4→Option T) (B:A1×A2×A3×A4→Prop) (F:A1→A2→A3→A4→(T→Prop)→Prop):Prop:=(∀ (x1:A1) (x2:A2) (x3:A3) (x4:A4) r,sp (x1,x2,x3,x4)=some r→B (x1,x2,x3,x4)→F x1 x2 x3 x4 (fun y=>y=r))→aN P f g
theorem iW {P:Program} {E:Env} {Hs:FuncId→Hint} {a1:Bool×Sy} {sp:a1.2.den→Option T} {F:a1.2.den→(T→Prop)→Prop} {k:Nat} {f:FuncId} (hE:aT P E) (hm:P.follows .mixedOrders=true) (hn:cE P=true) (hh:eH E) (hex:∃ fn c,P.funcs[f]? = some fn∧fn.body=some c) (hs:rA [a1]=true) (hF:∀ x1 R,dY bR P E Hs k f (Sh.iH [a1] x1) R=F x1 R)
  (h:∀ x1 r,sp x1=some r→cC [a1] x1→F x1 (fun y=>y=r)):aN P f (gS (s:=[a1]) sp) :=
 FO hE hm hn hh k hex hs fun x r h1 h2=>by
  rw[hF]
  simp_all
theorem iB {P:Program} {E:Env} {Hs:FuncId→Hint} {a1 a2:Bool×Sy} {sp:a1.2.den×a2.2.den→Option T} {F:a1.2.den→a2.2.den→(T→Prop)→Prop} {k:Nat} {f:FuncId} (hE:aT P E) (hm:P.follows .mixedOrders=true) (hn:cE P=true) (hh:eH E) (hex:∃ fn c,P.funcs[f]? = some fn∧fn.body=some c) (hs:rA [a1,a2]=true) (hF:∀ x1 x2 R,dY bR P E Hs k f (Sh.iH [a1,a2] (x1,x2)) R=F x1 x2 R)
  (h:∀ x1 x2 r,sp (x1,x2)=some r→cC [a1,a2] (x1,x2)→F x1 x2 (fun y=>y=r)):aN P f (gS (s:=[a1,a2]) sp) :=
 FO hE hm hn hh k hex hs fun x r h1 h2=>by
  rw[hF]
  simp_all
theorem RE {P:Program} {E:Env} {Hs:FuncId→Hint} {a1 a2 a3:Bool×Sy} {sp:a1.2.den×a2.2.den×a3.2.den→Option T} {F:a1.2.den→a2.2.den→a3.2.den→(T→Prop)→Prop} {k:Nat} {f:FuncId} (hE:aT P E) (hm:P.follows .mixedOrders=true) (hn:cE P=true) (hh:eH E) (hex:∃ fn c,P.funcs[f]? = some fn∧fn.body=some c) (hs:rA [a1,a2,a3]=true) (hF:∀ x1 x2 x3 R,dY bR P E Hs k f (Sh.iH [a1,a2,a3] (x1,x2,x3)) R=F x1 x2 x3 R)
  (h:∀ x1 x2 x3 r,sp (x1,x2,x3)=some r→cC [a1,a2,a3] (x1,x2,x3)→F x1 x2 x3 (fun y=>y=r)):aN P f (gS (s:=[a1,a2,a3]) sp) :=
 FO hE hm hn hh k hex hs fun x r h1 h2=>by
  rw[hF]
  simp_all
theorem BEX {P:Program} {E:Env} {Hs:FuncId→Hint} {a1 a2 a3 a4:Bool×Sy} {sp:a1.2.den×a2.2.den×a3.2.den×a4.2.den→Option T} {F:a1.2.den→a2.2.den→a3.2.den→a4.2.den→(T→Prop)→Prop} {k:Nat} {f:FuncId} (hE:aT P E) (hm:P.follows .mixedOrders=true) (hn:cE P=true) (hh:eH E) (hex:∃ fn c,P.funcs[f]? = some fn∧fn.body=some c) (hs:rA [a1,a2,a3,a4]=true) (hF:∀ x1 x2 x3 x4 R,dY bR P E Hs k f (Sh.iH [a1,a2,a3,a4] (x1,x2,x3,x4)) R=F x1 x2 x3 x4 R)
  (h:∀ x1 x2 x3 x4 r,sp (x1,x2,x3,x4)=some r→cC [a1,a2,a3,a4] (x1,x2,x3,x4)→F x1 x2 x3 x4 (fun y=>y=r)):aN P f (gS (s:=[a1,a2,a3,a4]) sp) :=
 FO hE hm hn hh k hex hs fun x r h1 h2=>by
  rw[hF]
  simp_all
open Classical in
noncomputable def gA {α X:Type} (A:X→List T) (sp:X→Option α) (args:List T):Option α:=if h:∃ x,args=A x then sp (Classical.choose h) else none
theorem eN {α X:Type} {A:X→List T} {sp:X→Option α} (hA:∀ x y,A x=A y→x=y) (x:X):gA A sp (A x)=sp x:=by
 unfold gA
 have he:∃ y,A x=A y:=⟨x,rfl⟩
 grind
theorem uY {α X:Type} {A:X→List T} {sp:X→Option α} {args:List T} {r:α} (h:gA A sp args=some r):∃ x,args=A x∧sp x=some r:=by
 unfold gA at h
 split at h
 ·grind
 ·cases h
theorem cK {P:Program} {E:Env} {Hs:FuncId→Hint} (hE:aT P E) (hm:P.follows .mixedOrders=true) (hn:cE P=true) (hh:eH E) (k:Nat) {f:FuncId} {X:Type} {A:X→List T} {sp:X→Option T} (hex:∃ fn c,P.funcs[f]? = some fn∧fn.body=some c)
  (h:∀ x r,sp x=some r→(∀ t∈A x,Bd t)→dY bR P E Hs k f (A x) (fun y=>y=r)):aN P f (gA A sp) :=
 H7 hE hm hn hh k hex fun args r hg hb=>by
  obtain ⟨x,rfl,hx⟩:=uY hg
  exact h x r hx hb
theorem EA {P:Program} {E:Env} {Hs:FuncId→Hint} (hE:aT P E) (hm:P.follows .mixedOrders=true) (hn:cE P=true) (hh:eH E) (k:Nat) {f:FuncId} {X:Type} {A:X→List T} {sp:X→Option (List (ByteArray×Int))} (hex:∃ fn c,P.funcs[f]? = some fn∧fn.body=some c)
  (h:∀ x r,sp x=some r→(∀ t∈A x,Bd t)→wD bR P E Hs k f (A x) (fun y=>y = .mp (bS r))):kP P f (sB (gA A sp)) :=
 ADO hE hm hn hh k hex fun args r hg hb=>by
  unfold sB at hg
  simp only[Option.map_eq_some_iff] at hg
  obtain ⟨es,hg,rfl⟩:=hg
  obtain ⟨x,rfl,hx⟩:=uY hg
  exact h x es hx hb
theorem jT (A B:Prop):aD true A B=A:=propext ⟨fun h=>h,fun h=>h⟩
theorem mX (A B:Prop):aD false A B=B:=propext ⟨fun h=>h,fun h=>h⟩
theorem ADA (b:Bool) (A B:Prop):aD b A B=if b=true then A else B:=by cases b<;>rfl
theorem A1X (b:Bool) (K:Prop):bQ b K=(b=true∧K):=rfl
theorem dF (x:bB) (K:Prop):gN x x K=K:=by simp[gN]
theorem zJ (S:Type) (A:(S→Prop)→Prop) (K:S→Prop):oK S A K=A K:=rfl
theorem uQ {r:Sy} {l:List r.den} {i:Nat} {y:r.den}:(List.map r.enc l)[i]? = some (r.enc y)↔l[i]? = some y:=by
 rw[List.getElem?_map]
 cases h:l[i]? with
 | none=>simp
 | some z=>simp only[Option.map_some,Option.some.injEq];exact ⟨Sy.dH r _ _,fun e=>by rw[e]⟩
theorem ASN (r:Sy) (l:List r.den) (i:Int) (K:r.den→Prop):aP r (List.map r.enc l) i K = ∃ y,0≤i∧l[i.toNat]? = some y∧K y:=by
 simp only[aP,uQ]
theorem bG {r:Sy} {l:List r.den} {k:Nat} (h:k<l.length) (K:r.den→Prop):aP r (List.map r.enc l) (k:Int) K=K l[k]:=by
 rw[ASN]
 simp_all
theorem nC {r:Sy} {l:List r.den} {k:Nat} (h:k<l.length) (K:List T→Prop):sJ (List.map r.enc l) k K=K (r.enc l[k]):=by
 unfold sJ
 simp_all
theorem iQ {r:Sy} {l:List r.den} {k:Nat} (h:k<l.length) (K:r.den→Prop):fR r (List.map r.enc l) k 0 K=K l[k]:=by
 have e:(List.map r.enc l)[k]? = some (r.enc l[k]):=uQ.2 (List.getElem?_eq_getElem h)
 have e2:((r.enc l[k]).drop 0).take r.w=r.enc l[k]:=by rw[List.drop_zero,←Sy.cP r l[k],List.take_length]
 apply propext
 constructor
 ·rintro ⟨row,y,h1,_,h2,h3⟩
  rw[e] at h1;cases h1
  rw[e2] at h2
  rw[Sy.dH r _ _ h2];exact h3
 ·exact fun hk=>⟨_,_,e,by rw[Sy.cP];omega,e2,hk⟩
theorem AHA:∀ {s:Sh},rA s=true→∀ {x y:Sh.den s},Sh.enc s x=Sh.enc s y→x=y
 | [],_,_,_,_=>rfl
 | [a],h,x,y,he=>mN (by simpa [rA] using h) he
 | a::b::l,h,x,y,he=>by
  simp only[Sh.enc,T.bZ.injEq] at he
  exact NP h he
theorem yW {s:Sh} (hs:rA s=true) (y:Sh.den s) (K:Sh.den s→Prop):aI s (some (Sh.enc s y)) K=K y:=by
 apply propext
 constructor
 ·rintro ⟨z,h1,h2⟩
  rw[AHA hs (Option.some.inj h1)];exact h2
 ·exact fun hk=>⟨y,rfl,hk⟩
theorem eE {r:Sy} {a:Option (List (List T))} {l:List r.den} (h:a=some (List.map r.enc l)) (K:List r.den→Prop) (hk:K l):eV r a K:=⟨l,h,hk⟩
theorem FW {r:Sy} {l:List r.den} {k:Nat} (h:k<l.length):(List.map r.enc l).set k (r.enc l[k])=List.map r.enc l:=by
 have:(List.map r.enc l)[k]'(by simpa using h)=r.enc l[k]:=by simp
 rw[←this,List.set_getElem_self]
theorem pO {α:Type} {p:α→Bool} {l:List α} {k:Nat} (h:k<l.length):(l.drop k).find? p=if p l[k]=true then some l[k] else (l.drop (k+1)).find? p:=by
 rw[List.drop_eq_getElem_cons h,List.find?_cons]
 grind
theorem aG {s:Sh} {a:Option T} {y:Sh.den s} {K:Sh.den s→Prop} (h:a=some (Sh.enc s y)) (hk:K y):aI s a K:=⟨y,h,hk⟩
def Sy.pure:Sy→Bool
 | .any=>false
 | .pr a b=>a.pure&&b.pure
 | .li r=>r.pure
 | _=>true
theorem gB:∀ {r:Sy} (x:r.den),r.pure=true→(r.enc x).map (T.canon 0)=r.enc x
 | .int _,_,_=>rfl
 | .bool,_,_=>rfl
 | .str,_,_=>rfl
 | .any,_,h=>by simp[Sy.pure] at h
 | .pr a b,x,h=>by
  simp only[Sy.pure,Bool.and_eq_true] at h
  simp only[Sy.enc,List.map_append,gB x.1 h.1,gB x.2 h.2]
 | .li r,_,_=>rfl
theorem NG {r:Sy} (h:r.pure=true) (l:List r.den):kH (List.map r.enc l)=List.map r.enc l:=by
 unfold kH
 rw[List.map_map]
 exact List.map_congr_left fun x _=>gB x h
theorem AAM (a b:List (List T)):kH (a++b)=kH a++kH b:=by simp[kH]
theorem eT {r:Sy} (h:r.pure=true) (l:List r.den) (K:List r.den→Prop):cH r (List.map r.enc l) K=K l:=by
 apply propext
 constructor
 ·rintro ⟨l',h1,h2⟩
  rw[NG h] at h1
  rw[map_inj (Sy.dH r) h1];exact h2
 ·exact fun hk=>⟨l,NG h l,hk⟩
theorem AWY {r:Sy} (K:List r.den→Prop):cH r [] K=K []:=by
 apply propext
 constructor
 ·rintro ⟨l',h1,h2⟩
  cases l' with
  | nil=>exact h2
  | cons a l=>simp[kH] at h1
 ·exact fun hk=>⟨[],rfl,hk⟩
theorem sV {r:Sy} (h:r.pure=true) (l:List r.den) (row:List T) (y:r.den) (hy:row.map (T.canon 0)=r.enc y) (K:List r.den→Prop):cH r (List.map r.enc l++[row]) K=K (l++[y]):=by
 have e:kH (List.map r.enc l++[row])=List.map r.enc (l++[y]):=by
  rw[AAM,NG h,List.map_append]
  simp[kH,hy]
 apply propext
 constructor
 ·rintro ⟨l',h1,h2⟩
  rw[e] at h1
  rw[map_inj (Sy.dH r) h1];exact h2
 ·exact fun hk=>⟨_,e,hk⟩
theorem bM {S:Type} {F:(S→Prop)→S→Prop} {s:S} (n:Nat) (J:Nat→S→Prop) (h0:J 0 s) (step:∀ (X:S→Prop) (k:Nat) (s:S),k≤n→J k s→(∀ s',k<n→J (k+1) s'→X s')→F X s):aZ S F s:=by
 intro X hX
 have key:∀ m k s,n-k<m→k≤n→J k s→X s:=by
  intro m
  induction m with
  | zero=>intro k s h;omega
  | succ m ih=>intro k s hm hk hj;exact hX s (step X k s hk hj fun s' h1 h2=>ih (k+1) s' (by omega) (by omega) h2)
 exact key (n+1) 0 s (by omega) (by omega) h0
theorem H3 {α:Type} {l:List α} {k:Nat}:decide ((k:Int)<(l.length:Int))=decide (k<l.length):=by simp
def dI:FuncId→Hint:=fun _=>bI
noncomputable def mF:Env:=Env.of []
theorem bW (P:Program):aT P mF:=.nil _
end Go.Pv
