/-
  The symbolic executor, part h: how one reasons about what it says.
-/
import Derived.Test.YtdplnhkfbmgofaaGreatDoorPv2kg
import Derived.Test.YtdplnhkfbmgofaaGreatDoorPv2wo
set_option linter.defProp false
set_option linter.unusedSimpArgs false
namespace Go.Pv
open Go Go.RowKit
def BdS:(r:Sy)→r.den→Prop
 | .pr a b,x=>BdS a x.1∧BdS b x.2
 | .li r,l=>List.length (α:=r.den) l≤2 ^ 47∧∀ y,List.Mem y (show List r.den from l)→BdS r y
 | .int _,_=>True
 | .bool,_=>True
 | .str,_=>True
 | .any,_=>True
theorem JJ:∀ {r:Sy} {x:r.den},(∀ t∈r.enc x,Bd t)→BdS r x
 | .int _,_,_=>trivial
 | .bool,_,_=>trivial
 | .str,_,_=>trivial
 | .any,_,_=>trivial
 | .pr a b,x,h=>⟨JJ fun t ht=>h t (by simp only[Sy.enc,List.mem_append];exact .inl ht),JJ fun t ht=>h t (by simp only[Sy.enc,List.mem_append];exact .inr ht)⟩
 | .li r,l,h=>by
  have:=(A1B _ _).1 (h (.sl false (List.map r.enc l)) (by simp[Sy.enc]))
  exact ⟨by have h1:(List.map r.enc (show List r.den from l)).length≤2 ^ 47:=this.1;rw[List.length_map] at h1;exact h1,fun y hy=>JJ fun t ht=>this.2 (r.enc y) (List.mem_map.2 ⟨y,hy,rfl⟩) t ht⟩
theorem AFU {ag:Bool} {r:Sy} {x:r.den} (hw:(ag||r.w == 1)=true) (h:Bd (aH ag r x)):BdS r x:=by
 cases ag with
 | true=>exact JJ ((A2F _).1 h)
 | false =>
  have hl:(r.enc x).length=1:=by rw[Sy.dD];simpa using hw
  obtain ⟨u,hu⟩:=List.length_eq_one_iff.1 hl
  refine JJ fun t ht=>?_
  rw[hu] at ht
  simp only[aH,hu,hdT] at h
  rw[List.mem_singleton.1 ht];exact h
def sE (s:Sh):Bool:=s.all fun x=>x.1||x.2.w == 1
theorem bX {ag:Bool} {r:Sy} (hw:(ag||r.w == 1)=true) {x y:r.den} (h:aH ag r x=aH ag r y):x=y:=by
 cases ag with
 | true=>simp only[aH,T.agg.injEq] at h;exact Sy.dI r _ _ h
 | false =>
  have hx:(r.enc x).length=1:=by rw[Sy.dD];simpa using hw
  have hy:(r.enc y).length=1:=by rw[Sy.dD];simpa using hw
  obtain ⟨u,hu⟩:=List.length_eq_one_iff.1 hx
  obtain ⟨v,hv⟩:=List.length_eq_one_iff.1 hy
  simp only[aH,hu,hv,hdT] at h
  exact Sy.dI r _ _ (by rw[hu,hv,h])
theorem JW:∀ {s:Sh},sE s=true→∀ {x y:Sh.den s},Sh.lW s x=Sh.lW s y→x=y
 | [],_,_,_,_=>rfl
 | [a],h,x,y,he=>by
  simp only[Sh.lW,List.cons.injEq] at he
  exact bX (by simpa [sE] using h) he.1
 | a::b::l,h,x,y,he=>by
  have h':(a.1||a.2.w == 1)=true∧sE (b::l)=true:=by
   unfold sE at h ⊢
   rw[List.all_cons,Bool.and_eq_true] at h
   exact h
  simp only[Sh.lW,List.cons.injEq] at he
  exact Prod.ext (bX h'.1 he.1) (JW h'.2 he.2)
def cB:(s:Sh)→Sh.den s→Prop
 | [],_=>True
 | [a],x=>BdS a.2 x
 | a::b::l,x=>BdS a.2 x.1∧cB (b::l) x.2
theorem RB:∀ {s:Sh},sE s=true→∀ {x:Sh.den s},(∀ t∈Sh.lW s x,Bd t)→cB s x
 | [],_,_,_=>trivial
 | [a],h,x,hb=>AFU (by simpa [sE] using h) (hb _ (by simp[Sh.lW]))
 | a::b::l,h,x,hb=>by
  have h':(a.1||a.2.w == 1)=true∧sE (b::l)=true:=by
   unfold sE at h ⊢
   rw[List.all_cons,Bool.and_eq_true] at h
   exact h
  exact ⟨AFU h'.1 (hb _ (by simp[Sh.lW])),RB h'.2 fun t ht=>hb t (by simp only[Sh.lW,List.mem_cons];exact .inr ht)⟩
open Classical in
noncomputable def gS {α:Type} (s:Sh) (sp:Sh.den s→Option α) (args:List T):Option α:=if h:∃ x,args=Sh.lW s x then sp (Classical.choose h) else none
theorem bD {α:Type} {s:Sh} (hs:sE s=true) {sp:Sh.den s→Option α} {args:List T} (x:Sh.den s) (h:args=Sh.lW s x):gS s sp args=sp x:=by
 unfold gS
 have he:∃ x,args=Sh.lW s x:=⟨x,h⟩
 rw[dif_pos he]
 congr 1
 exact JW hs ((Classical.choose_spec he).symm.trans h)
theorem BD {α:Type} {s:Sh} {sp:Sh.den s→Option α} {args:List T} {r:α} (h:gS s sp args=some r):∃ x,args=Sh.lW s x∧sp x=some r:=by
 unfold gS at h
 split at h
 ·rename_i he
  exact ⟨_,Classical.choose_spec he,h⟩
 ·cases h
theorem B6 {P:Program} {E:Env} {Hs:FuncId→Hint} (hE:aR P E) (hm:P.follows .mixedOrders=true) (hn:cM P=true) (hh:fU E) (k:Nat) {f:FuncId} {s:Sh} {sp:Sh.den s→Option T} (hex:∃ fn c,P.funcs[f]? = some fn∧fn.body=some c) (hs:sE s=true)
  (h:∀ x r,sp x=some r→cB s x→dS bZ P E Hs k f (Sh.lW s x) (fun y=>y=r)):aN P f (gS s sp) :=
 EI hE hm hn hh k hex fun args r hg hb=>by
  obtain ⟨x,rfl,hx⟩:=BD hg
  exact h x r hx (RB hs hb)
theorem A0D {P:Program} {E:Env} {Hs:FuncId→Hint} (hE:aR P E) (hm:P.follows .mixedOrders=true) (hn:cM P=true) (hh:fU E) (k:Nat) {f:FuncId} {s:Sh} {sp:Sh.den s→Option T} (hex:∃ fn c,P.funcs[f]? = some fn∧fn.body=some c) (hs:sE s=true)
  (h:∀ x r,sp x=some r→cB s x→tW bZ P E Hs k f (Sh.lW s x) (fun y=>y=r)):jN P f (gS s sp) :=
 YA hE hm hn hh k hex fun args r hg hb=>by
  obtain ⟨x,rfl,hx⟩:=BD hg
  exact h x r hx (RB hs hb)
def A13:List (Nat×LH)→Nat→LH
 | [],_=>.none
 | (a,h)::l,r=>match r == a with
  | true=>h
  | false=>A13 l r
def bV (f:FuncId) (l:List (Nat×LH)) (n:FuncId→Hint):FuncId→Hint:=fun g=>match g == f with
 | true=>⟨A13 l,fun _ _=>none,fun _=>none⟩
 | false=>n g
abbrev rA (P:Program) (f:FuncId) (g:List T→Option T) {A1:Type} (sp:A1→Option T) (B:A1→Prop) (F:A1→(T→Prop)→Prop):Prop:=(∀ (x1:A1) r,sp x1=some r→B x1→F x1 (fun y=>y=r))→aN P f g
abbrev uH (P:Program) (f:FuncId) (g:List T→Option T) {A1 A2:Type} (sp:A1×A2→Option T) (B:A1×A2→Prop) (F:A1→A2→(T→Prop)→Prop):Prop:=(∀ (x1:A1) (x2:A2) r,sp (x1,x2)=some r→B (x1,x2)→F x1 x2 (fun y=>y=r))→aN P f g
abbrev Of3 (P:Program) (f:FuncId) (g:List T→Option T) {A1 A2 A3:Type} (sp:A1×A2×A3→Option T) (B:A1×A2×A3→Prop) (F:A1→A2→A3→(T→Prop)→Prop):Prop:=(∀ (x1:A1) (x2:A2) (x3:A3) r,sp (x1,x2,x3)=some r→B (x1,x2,x3)→F x1 x2 x3 (fun y=>y=r))→aN P f g
abbrev Of4 (P:Program) (f:FuncId) (g:List T→Option T) {A1 A2 A3 A4:Type} (sp:A1×A2×A3×A4→Option T) (B:A1×A2×A3×A4→Prop) (F:A1→A2→A3→A4→(T→Prop)→Prop):Prop:=(∀ (x1:A1) (x2:A2) (x3:A3) (x4:A4) r,sp (x1,x2,x3,x4)=some r→B (x1,x2,x3,x4)→F x1 x2 x3 x4 (fun y=>y=r))→aN P f g
theorem gF {P:Program} {E:Env} {Hs:FuncId→Hint} {a1:Bool×Sy} {sp:a1.2.den→Option T} {F:a1.2.den→(T→Prop)→Prop} {k:Nat} {f:FuncId} (hE:aR P E) (hm:P.follows .mixedOrders=true) (hn:cM P=true) (hh:fU E) (hex:∃ fn c,P.funcs[f]? = some fn∧fn.body=some c) (hs:sE [a1]=true) (hF:∀ x1 R,dS bZ P E Hs k f (Sh.lW [a1] x1) R=F x1 R)
  (h:∀ x1 r,sp x1=some r→cB [a1] x1→F x1 (fun y=>y=r)):aN P f (gS (s:=[a1]) sp) :=
 B6 hE hm hn hh k hex hs fun x r h1 h2=>by
  rw[hF]
  exact h x r h1 h2
theorem iK {P:Program} {E:Env} {Hs:FuncId→Hint} {a1 a2:Bool×Sy} {sp:a1.2.den×a2.2.den→Option T} {F:a1.2.den→a2.2.den→(T→Prop)→Prop} {k:Nat} {f:FuncId} (hE:aR P E) (hm:P.follows .mixedOrders=true) (hn:cM P=true) (hh:fU E) (hex:∃ fn c,P.funcs[f]? = some fn∧fn.body=some c) (hs:sE [a1,a2]=true) (hF:∀ x1 x2 R,dS bZ P E Hs k f (Sh.lW [a1,a2] (x1,x2)) R=F x1 x2 R)
  (h:∀ x1 x2 r,sp (x1,x2)=some r→cB [a1,a2] (x1,x2)→F x1 x2 (fun y=>y=r)):aN P f (gS (s:=[a1,a2]) sp) :=
 B6 hE hm hn hh k hex hs fun x r h1 h2=>by
  obtain ⟨x1,x2⟩:=x
  rw[hF]
  exact h x1 x2 r h1 h2
theorem YE {P:Program} {E:Env} {Hs:FuncId→Hint} {a1 a2 a3:Bool×Sy} {sp:a1.2.den×a2.2.den×a3.2.den→Option T} {F:a1.2.den→a2.2.den→a3.2.den→(T→Prop)→Prop} {k:Nat} {f:FuncId} (hE:aR P E) (hm:P.follows .mixedOrders=true) (hn:cM P=true) (hh:fU E) (hex:∃ fn c,P.funcs[f]? = some fn∧fn.body=some c) (hs:sE [a1,a2,a3]=true) (hF:∀ x1 x2 x3 R,dS bZ P E Hs k f (Sh.lW [a1,a2,a3] (x1,x2,x3)) R=F x1 x2 x3 R)
  (h:∀ x1 x2 x3 r,sp (x1,x2,x3)=some r→cB [a1,a2,a3] (x1,x2,x3)→F x1 x2 x3 (fun y=>y=r)):aN P f (gS (s:=[a1,a2,a3]) sp) :=
 B6 hE hm hn hh k hex hs fun x r h1 h2=>by
  obtain ⟨x1,x2,x3⟩:=x
  rw[hF]
  exact h x1 x2 x3 r h1 h2
theorem A9A {P:Program} {E:Env} {Hs:FuncId→Hint} {a1 a2 a3 a4:Bool×Sy} {sp:a1.2.den×a2.2.den×a3.2.den×a4.2.den→Option T} {F:a1.2.den→a2.2.den→a3.2.den→a4.2.den→(T→Prop)→Prop} {k:Nat} {f:FuncId} (hE:aR P E) (hm:P.follows .mixedOrders=true) (hn:cM P=true) (hh:fU E) (hex:∃ fn c,P.funcs[f]? = some fn∧fn.body=some c) (hs:sE [a1,a2,a3,a4]=true) (hF:∀ x1 x2 x3 x4 R,dS bZ P E Hs k f (Sh.lW [a1,a2,a3,a4] (x1,x2,x3,x4)) R=F x1 x2 x3 x4 R)
  (h:∀ x1 x2 x3 x4 r,sp (x1,x2,x3,x4)=some r→cB [a1,a2,a3,a4] (x1,x2,x3,x4)→F x1 x2 x3 x4 (fun y=>y=r)):aN P f (gS (s:=[a1,a2,a3,a4]) sp) :=
 B6 hE hm hn hh k hex hs fun x r h1 h2=>by
  obtain ⟨x1,x2,x3,x4⟩:=x
  rw[hF]
  exact h x1 x2 x3 x4 r h1 h2
open Classical in
noncomputable def gA {α X:Type} (A:X→List T) (sp:X→Option α) (args:List T):Option α:=if h:∃ x,args=A x then sp (Classical.choose h) else none
theorem e8 {α X:Type} {A:X→List T} {sp:X→Option α} (hA:∀ x y,A x=A y→x=y) (x:X):gA A sp (A x)=sp x:=by
 unfold gA
 have he:∃ y,A x=A y:=⟨x,rfl⟩
 rw[dif_pos he]
 congr 1
 exact hA _ _ (Classical.choose_spec he).symm
theorem RR {α X:Type} {A:X→List T} {sp:X→Option α} {args:List T} {r:α} (h:gA A sp args=some r):∃ x,args=A x∧sp x=some r:=by
 unfold gA at h
 split at h
 ·rename_i he
  exact ⟨_,Classical.choose_spec he,h⟩
 ·cases h
theorem cQ {P:Program} {E:Env} {Hs:FuncId→Hint} (hE:aR P E) (hm:P.follows .mixedOrders=true) (hn:cM P=true) (hh:fU E) (k:Nat) {f:FuncId} {X:Type} {A:X→List T} {sp:X→Option T} (hex:∃ fn c,P.funcs[f]? = some fn∧fn.body=some c)
  (h:∀ x r,sp x=some r→(∀ t∈A x,Bd t)→dS bZ P E Hs k f (A x) (fun y=>y=r)):aN P f (gA A sp) :=
 EI hE hm hn hh k hex fun args r hg hb=>by
  obtain ⟨x,rfl,hx⟩:=RR hg
  exact h x r hx hb
theorem A8 {P:Program} {E:Env} {Hs:FuncId→Hint} (hE:aR P E) (hm:P.follows .mixedOrders=true) (hn:cM P=true) (hh:fU E) (k:Nat) {f:FuncId} {X:Type} {A:X→List T} {sp:X→Option (List (ByteArray×Int))} (hex:∃ fn c,P.funcs[f]? = some fn∧fn.body=some c)
  (h:∀ x r,sp x=some r→(∀ t∈A x,Bd t)→tW bZ P E Hs k f (A x) (fun y=>y = .mp (bJ r))):jN P f (qW (gA A sp)) :=
 YA hE hm hn hh k hex fun args r hg hb=>by
  unfold qW at hg
  simp only[Option.map_eq_some_iff] at hg
  obtain ⟨es,hg,rfl⟩:=hg
  obtain ⟨x,rfl,hx⟩:=RR hg
  exact h x es hx hb
theorem iV (A B:Prop):aB true A B=A:=propext ⟨fun h=>h,fun h=>h⟩
theorem lK (A B:Prop):aB false A B=B:=propext ⟨fun h=>h,fun h=>h⟩
theorem BS (b:Bool) (A B:Prop):aB b A B=if b=true then A else B:=by cases b<;>rfl
theorem AVQ (b:Bool) (K:Prop):bS b K=(b=true∧K):=rfl
theorem cS (x:bE) (K:Prop):fG x x K=K:=by simp[fG]
theorem w4 (S:Type) (A:(S→Prop)→Prop) (K:S→Prop):qF S A K=A K:=rfl
theorem RJ {r:Sy} {l:List r.den} {i:Nat} {y:r.den}:(List.map r.enc l)[i]? = some (r.enc y)↔l[i]? = some y:=by
 rw[List.getElem?_map]
 cases h:l[i]? with
 | none=>simp
 | some z=>simp only[Option.map_some,Option.some.injEq];exact ⟨Sy.dI r _ _,fun e=>by rw[e]⟩
theorem AMJ (r:Sy) (l:List r.den) (i:Int) (K:r.den→Prop):aS r (List.map r.enc l) i K = ∃ y,0≤i∧l[i.toNat]? = some y∧K y:=by
 simp only[aS,RJ]
theorem bA {r:Sy} {l:List r.den} {k:Nat} (h:k<l.length) (K:r.den→Prop):aS r (List.map r.enc l) (k:Int) K=K l[k]:=by
 rw[AMJ]
 apply propext
 constructor
 ·rintro ⟨y,_,h1,h2⟩
  rw[Int.toNat_natCast,List.getElem?_eq_getElem h] at h1
  cases h1;exact h2
 ·exact fun hk=>⟨l[k],by omega,by rw[Int.toNat_natCast,List.getElem?_eq_getElem h],hk⟩
theorem tJ {r:Sy} {l:List r.den} {k:Nat} (h:k<l.length) (K:List T→Prop):NP (List.map r.enc l) k K=K (r.enc l[k]):=by
 unfold NP
 have e:(List.map r.enc l)[k]? = some (r.enc l[k]):=RJ.2 (List.getElem?_eq_getElem h)
 apply propext
 constructor
 ·rintro ⟨y,h1,h2⟩
  rw[e] at h1;cases h1;exact h2
 ·exact fun hk=>⟨_,e,hk⟩
theorem iW {r:Sy} {l:List r.den} {k:Nat} (h:k<l.length) (K:r.den→Prop):nD r (List.map r.enc l) k 0 K=K l[k]:=by
 unfold nD
 have e:(List.map r.enc l)[k]? = some (r.enc l[k]):=RJ.2 (List.getElem?_eq_getElem h)
 have e2:((r.enc l[k]).drop 0).take r.w=r.enc l[k]:=by rw[List.drop_zero,←Sy.dD r l[k],List.take_length]
 apply propext
 constructor
 ·rintro ⟨row,y,h1,_,h2,h3⟩
  rw[e] at h1;cases h1
  rw[e2] at h2
  rw[Sy.dI r _ _ h2];exact h3
 ·exact fun hk=>⟨_,_,e,by rw[Sy.dD];omega,e2,hk⟩
theorem AB9:∀ {s:Sh},sE s=true→∀ {x y:Sh.den s},Sh.enc s x=Sh.enc s y→x=y
 | [],_,_,_,_=>rfl
 | [a],h,x,y,he=>bX (by simpa [sE] using h) he
 | a::b::l,h,x,y,he=>by
  simp only[Sh.enc,T.cC.injEq] at he
  exact JW h he
theorem rK {s:Sh} (hs:sE s=true) (y:Sh.den s) (K:Sh.den s→Prop):aJ s (some (Sh.enc s y)) K=K y:=by
 apply propext
 constructor
 ·rintro ⟨z,h1,h2⟩
  rw[AB9 hs (Option.some.inj h1)];exact h2
 ·exact fun hk=>⟨y,rfl,hk⟩
theorem dH {r:Sy} {a:Option (List (List T))} {l:List r.den} (h:a=some (List.map r.enc l)) (K:List r.den→Prop) (hk:K l):dU r a K:=⟨l,h,hk⟩
theorem CB {r:Sy} {l:List r.den} {k:Nat} (h:k<l.length):(List.map r.enc l).set k (r.enc l[k])=List.map r.enc l:=by
 have:(List.map r.enc l)[k]'(by simpa using h)=r.enc l[k]:=by simp
 rw[←this,List.set_getElem_self]
theorem oH {α:Type} {p:α→Bool} {l:List α} {k:Nat} (h:k<l.length):(l.drop k).find? p=if p l[k]=true then some l[k] else (l.drop (k+1)).find? p:=by
 rw[List.drop_eq_getElem_cons h,List.find?_cons]
 cases p l[k]<;>rfl
theorem aF {s:Sh} {a:Option T} {y:Sh.den s} {K:Sh.den s→Prop} (h:a=some (Sh.enc s y)) (hk:K y):aJ s a K:=⟨y,h,hk⟩
def Sy.pure:Sy→Bool
 | .any=>false
 | .pr a b=>a.pure&&b.pure
 | .li r=>r.pure
 | _=>true
theorem zF:∀ {r:Sy} (x:r.den),r.pure=true→(r.enc x).map (T.canon 0)=r.enc x
 | .int _,_,_=>rfl
 | .bool,_,_=>rfl
 | .str,_,_=>rfl
 | .any,_,h=>by simp[Sy.pure] at h
 | .pr a b,x,h=>by
  simp only[Sy.pure,Bool.and_eq_true] at h
  simp only[Sy.enc,List.map_append,zF x.1 h.1,zF x.2 h.2]
 | .li r,_,_=>rfl
theorem JO {r:Sy} (h:r.pure=true) (l:List r.den):jW (List.map r.enc l)=List.map r.enc l:=by
 unfold jW
 rw[List.map_map]
 exact List.map_congr_left fun x _=>zF x h
theorem VL (a b:List (List T)):jW (a++b)=jW a++jW b:=by simp[jW]
theorem dK {r:Sy} (h:r.pure=true) (l:List r.den) (K:List r.den→Prop):cG r (List.map r.enc l) K=K l:=by
 apply propext
 constructor
 ·rintro ⟨l',h1,h2⟩
  rw[JO h] at h1
  rw[map_inj (Sy.dI r) h1];exact h2
 ·exact fun hk=>⟨l,JO h l,hk⟩
theorem ARB {r:Sy} (K:List r.den→Prop):cG r [] K=K []:=by
 apply propext
 constructor
 ·rintro ⟨l',h1,h2⟩
  cases l' with
  | nil=>exact h2
  | cons a l=>simp[jW] at h1
 ·exact fun hk=>⟨[],rfl,hk⟩
theorem DJ {r:Sy} (h:r.pure=true) (l:List r.den) (row:List T) (y:r.den) (hy:row.map (T.canon 0)=r.enc y) (K:List r.den→Prop):cG r (List.map r.enc l++[row]) K=K (l++[y]):=by
 have e:jW (List.map r.enc l++[row])=List.map r.enc (l++[y]):=by
  rw[VL,JO h,List.map_append]
  simp[jW,hy]
 apply propext
 constructor
 ·rintro ⟨l',h1,h2⟩
  rw[e] at h1
  rw[map_inj (Sy.dI r) h1];exact h2
 ·exact fun hk=>⟨_,e,hk⟩
theorem bG {S:Type} {F:(S→Prop)→S→Prop} {s:S} (n:Nat) (J:Nat→S→Prop) (h0:J 0 s) (step:∀ (X:S→Prop) (k:Nat) (s:S),k≤n→J k s→(∀ s',k<n→J (k+1) s'→X s')→F X s):a6 S F s:=by
 intro X hX
 have key:∀ m k s,n-k<m→k≤n→J k s→X s:=by
  intro m
  induction m with
  | zero=>intro k s h;omega
  | succ m ih=>intro k s hm hk hj;exact hX s (step X k s hk hj fun s' h1 h2=>ih (k+1) s' (by omega) (by omega) h2)
 exact key (n+1) 0 s (by omega) (by omega) h0
theorem EC {α:Type} {l:List α} {k:Nat}:decide ((k:Int)<(l.length:Int))=decide (k<l.length):=by simp
end Go.Pv
