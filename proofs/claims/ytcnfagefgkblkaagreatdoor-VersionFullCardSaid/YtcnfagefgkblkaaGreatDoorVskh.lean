/-
  The symbolic executor, part h: how one reasons about what it says.
-/
import Derived.Test.YtcnfagefgkblkaaGreatDoorVskg
import Derived.Test.YtcnfagefgkblkaaGreatDoorVswo
set_option linter.defProp false
set_option linter.unusedSimpArgs false
namespace Go.Pv
open Go Go.RowKit
def BdS:(r:Sy)→r.den→Prop
 | .pr a b,x=>BdS a x.1∧BdS b x.2
 | .li r,l=>List.length (α:=r.den) l≤2 ^ 47∧∀ y,List.Mem y (show List r.den from l)→BdS r y
 | .int _,_=>True
 | .bool,_=>True
 | .str,_=>True
 | .any,_=>True
theorem KE:∀ {r:Sy} {x:r.den},(∀ t∈r.enc x,Bd t)→BdS r x
 | .int _,_,_=>trivial
 | .bool,_,_=>trivial
 | .str,_,_=>trivial
 | .any,_,_=>trivial
 | .pr a b,x,h=>⟨KE fun t ht=>h t (by simp only[Sy.enc,List.mem_append];exact .inl ht),KE fun t ht=>h t (by simp only[Sy.enc,List.mem_append];exact .inr ht)⟩
 | .li r,l,h=>by
  have:=(A45 _ _).1 (h (.sl false (List.map r.enc l)) (by simp[Sy.enc]))
  exact ⟨by have h1:(List.map r.enc (show List r.den from l)).length≤2 ^ 47:=this.1;rw[List.length_map] at h1;exact h1,fun y hy=>KE fun t ht=>this.2 (r.enc y) (List.mem_map.2 ⟨y,hy,rfl⟩) t ht⟩
theorem AHN {ag:Bool} {r:Sy} {x:r.den} (hw:(ag||r.w == 1)=true) (h:Bd (aF ag r x)):BdS r x:=by
 cases ag with
 | true=>exact KE ((A6M _).1 h)
 | false =>
  have hl:(r.enc x).length=1:=by rw[Sy.cP];simpa using hw
  obtain ⟨u,hu⟩:=List.length_eq_one_iff.1 hl
  refine KE fun t ht=>?_
  rw[hu] at ht
  simp only[aF,hu,hdT] at h
  rw[List.mem_singleton.1 ht];exact h
def rG (s:Sh):Bool:=s.all fun x=>x.1||x.2.w == 1
theorem lQ {ag:Bool} {r:Sy} (hw:(ag||r.w == 1)=true) {x y:r.den} (h:aF ag r x=aF ag r y):x=y:=by
 cases ag with
 | true=>simp only[aF,T.agg.injEq] at h;exact Sy.cY r _ _ h
 | false =>
  have hx:(r.enc x).length=1:=by rw[Sy.cP];simpa using hw
  have hy:(r.enc y).length=1:=by rw[Sy.cP];simpa using hw
  obtain ⟨u,hu⟩:=List.length_eq_one_iff.1 hx
  obtain ⟨v,hv⟩:=List.length_eq_one_iff.1 hy
  simp only[aF,hu,hv,hdT] at h
  exact Sy.cY r _ _ (by rw[hu,hv,h])
theorem KR:∀ {s:Sh},rG s=true→∀ {x y:Sh.den s},Sh.iZ s x=Sh.iZ s y→x=y
 | [],_,_,_,_=>rfl
 | [a],h,x,y,he=>by
  simp only[Sh.iZ,List.cons.injEq] at he
  exact lQ (by simpa [rG] using h) he.1
 | a::b::l,h,x,y,he=>by
  have h':(a.1||a.2.w == 1)=true∧rG (b::l)=true:=by
   unfold rG at h ⊢
   rw[List.all_cons,Bool.and_eq_true] at h
   exact h
  simp only[Sh.iZ,List.cons.injEq] at he
  exact Prod.ext (lQ h'.1 he.1) (KR h'.2 he.2)
def b9:(s:Sh)→Sh.den s→Prop
 | [],_=>True
 | [a],x=>BdS a.2 x
 | a::b::l,x=>BdS a.2 x.1∧b9 (b::l) x.2
theorem H6:∀ {s:Sh},rG s=true→∀ {x:Sh.den s},(∀ t∈Sh.iZ s x,Bd t)→b9 s x
 | [],_,_,_=>trivial
 | [a],h,x,hb=>AHN (by simpa [rG] using h) (hb _ (by simp[Sh.iZ]))
 | a::b::l,h,x,hb=>by
  have h':(a.1||a.2.w == 1)=true∧rG (b::l)=true:=by
   unfold rG at h ⊢
   rw[List.all_cons,Bool.and_eq_true] at h
   exact h
  exact ⟨AHN h'.1 (hb _ (by simp[Sh.iZ])),H6 h'.2 fun t ht=>hb t (by simp only[Sh.iZ,List.mem_cons];exact .inr ht)⟩
open Classical in
noncomputable def gS {α:Type} (s:Sh) (sp:Sh.den s→Option α) (args:List T):Option α:=if h:∃ x,args=Sh.iZ s x then sp (Classical.choose h) else none
theorem bC {α:Type} {s:Sh} (hs:rG s=true) {sp:Sh.den s→Option α} {args:List T} (x:Sh.den s) (h:args=Sh.iZ s x):gS s sp args=sp x:=by
 unfold gS
 have he:∃ x,args=Sh.iZ s x:=⟨x,h⟩
 rw[dif_pos he]
 congr 1
 exact KR hs ((Classical.choose_spec he).symm.trans h)
theorem xF {α:Type} {s:Sh} {sp:Sh.den s→Option α} {args:List T} {r:α} (h:gS s sp args=some r):∃ x,args=Sh.iZ s x∧sp x=some r:=by
 unfold gS at h
 split at h
 ·rename_i he
  exact ⟨_,Classical.choose_spec he,h⟩
 ·cases h
theorem DA {P:Program} {E:Env} {Hs:FuncId→Hint} (hE:aQ P E) (hm:P.follows .mixedOrders=true) (hn:cD P=true) (hh:e8 E) (k:Nat) {f:FuncId} {s:Sh} {sp:Sh.den s→Option T} (hex:∃ fn c,P.funcs[f]? = some fn∧fn.body=some c) (hs:rG s=true)
  (h:∀ x r,sp x=some r→b9 s x→dH bR P E Hs k f (Sh.iZ s x) (fun y=>y=r)):aN P f (gS s sp) :=
 FR hE hm hn hh k hex fun args r hg hb=>by
  obtain ⟨x,rfl,hx⟩:=xF hg
  exact h x r hx (H6 hs hb)
theorem A32 {P:Program} {E:Env} {Hs:FuncId→Hint} (hE:aQ P E) (hm:P.follows .mixedOrders=true) (hn:cD P=true) (hh:e8 E) (k:Nat) {f:FuncId} {s:Sh} {sp:Sh.den s→Option T} (hex:∃ fn c,P.funcs[f]? = some fn∧fn.body=some c) (hs:rG s=true)
  (h:∀ x r,sp x=some r→b9 s x→uG bR P E Hs k f (Sh.iZ s x) (fun y=>y=r)):jS P f (gS s sp) :=
 ZZ hE hm hn hh k hex fun args r hg hb=>by
  obtain ⟨x,rfl,hx⟩:=xF hg
  exact h x r hx (H6 hs hb)
theorem AYF {P:Program} {E:Env} {Hs:FuncId→Hint} (hE:aQ P E) (hm:P.follows .mixedOrders=true) (hn:cD P=true) (hh:e8 E) (k:Nat) {f:FuncId} {ci:Nat} {s:Sh} {sp:Sh.den s→Option T} (hex:∃ fn c,P.funcs[f]? = some fn∧fn.body=some c) (hs:rG s=true)
  (h:∀ x r,sp x=some r→b9 s x→UU bR P E Hs k ci f (Sh.iZ s x) (fun y=>y=r)):J1 P f ci (gS s sp) :=
 AOS hE hm hn hh k hex fun args r hg hb=>by
  obtain ⟨x,rfl,hx⟩:=xF hg
  exact h x r hx (H6 hs hb)
def A50:List (Nat×LH)→Nat→LH
 | [],_=>.none
 | (a,h)::l,r=>match r == a with
  | true=>h
  | false=>A50 l r
def bV (f:FuncId) (l:List (Nat×LH)) (n:FuncId→Hint):FuncId→Hint:=fun g=>match g == f with
 | true=>⟨A50 l,fun _ _=>none,fun _=>none⟩
 | false=>n g
abbrev rM (P:Program) (f:FuncId) (g:List T→Option T) {A1:Type} (sp:A1→Option T) (B:A1→Prop) (F:A1→(T→Prop)→Prop):Prop:=(∀ (x1:A1) r,sp x1=some r→B x1→F x1 (fun y=>y=r))→aN P f g
abbrev yL (P:Program) (f:FuncId) (g:List T→Option T) {A1 A2:Type} (sp:A1×A2→Option T) (B:A1×A2→Prop) (F:A1→A2→(T→Prop)→Prop):Prop:=(∀ (x1:A1) (x2:A2) r,sp (x1,x2)=some r→B (x1,x2)→F x1 x2 (fun y=>y=r))→aN P f g
abbrev Of3 (P:Program) (f:FuncId) (g:List T→Option T) {A1 A2 A3:Type} (sp:A1×A2×A3→Option T) (B:A1×A2×A3→Prop) (F:A1→A2→A3→(T→Prop)→Prop):Prop:=(∀ (x1:A1) (x2:A2) (x3:A3) r,sp (x1,x2,x3)=some r→B (x1,x2,x3)→F x1 x2 x3 (fun y=>y=r))→aN P f g
abbrev Of4 (P:Program) (f:FuncId) (g:List T→Option T) {A1 A2 A3 A4:Type} (sp:A1×A2×A3×A4→Option T) (B:A1×A2×A3×A4→Prop) (F:A1→A2→A3→A4→(T→Prop)→Prop):Prop:=(∀ (x1:A1) (x2:A2) (x3:A3) (x4:A4) r,sp (x1,x2,x3,x4)=some r→B (x1,x2,x3,x4)→F x1 x2 x3 x4 (fun y=>y=r))→aN P f g
theorem gQ {P:Program} {E:Env} {Hs:FuncId→Hint} {a1:Bool×Sy} {sp:a1.2.den→Option T} {F:a1.2.den→(T→Prop)→Prop} {k:Nat} {f:FuncId} (hE:aQ P E) (hm:P.follows .mixedOrders=true) (hn:cD P=true) (hh:e8 E) (hex:∃ fn c,P.funcs[f]? = some fn∧fn.body=some c) (hs:rG [a1]=true) (hF:∀ x1 R,dH bR P E Hs k f (Sh.iZ [a1] x1) R=F x1 R)
  (h:∀ x1 r,sp x1=some r→b9 [a1] x1→F x1 (fun y=>y=r)):aN P f (gS (s:=[a1]) sp) :=
 DA hE hm hn hh k hex hs fun x r h1 h2=>by
  rw[hF]
  exact h x r h1 h2
theorem jZ {P:Program} {E:Env} {Hs:FuncId→Hint} {a1 a2:Bool×Sy} {sp:a1.2.den×a2.2.den→Option T} {F:a1.2.den→a2.2.den→(T→Prop)→Prop} {k:Nat} {f:FuncId} (hE:aQ P E) (hm:P.follows .mixedOrders=true) (hn:cD P=true) (hh:e8 E) (hex:∃ fn c,P.funcs[f]? = some fn∧fn.body=some c) (hs:rG [a1,a2]=true) (hF:∀ x1 x2 R,dH bR P E Hs k f (Sh.iZ [a1,a2] (x1,x2)) R=F x1 x2 R)
  (h:∀ x1 x2 r,sp (x1,x2)=some r→b9 [a1,a2] (x1,x2)→F x1 x2 (fun y=>y=r)):aN P f (gS (s:=[a1,a2]) sp) :=
 DA hE hm hn hh k hex hs fun x r h1 h2=>by
  obtain ⟨x1,x2⟩:=x
  rw[hF]
  exact h x1 x2 r h1 h2
theorem Z5 {P:Program} {E:Env} {Hs:FuncId→Hint} {a1 a2 a3:Bool×Sy} {sp:a1.2.den×a2.2.den×a3.2.den→Option T} {F:a1.2.den→a2.2.den→a3.2.den→(T→Prop)→Prop} {k:Nat} {f:FuncId} (hE:aQ P E) (hm:P.follows .mixedOrders=true) (hn:cD P=true) (hh:e8 E) (hex:∃ fn c,P.funcs[f]? = some fn∧fn.body=some c) (hs:rG [a1,a2,a3]=true) (hF:∀ x1 x2 x3 R,dH bR P E Hs k f (Sh.iZ [a1,a2,a3] (x1,x2,x3)) R=F x1 x2 x3 R)
  (h:∀ x1 x2 x3 r,sp (x1,x2,x3)=some r→b9 [a1,a2,a3] (x1,x2,x3)→F x1 x2 x3 (fun y=>y=r)):aN P f (gS (s:=[a1,a2,a3]) sp) :=
 DA hE hm hn hh k hex hs fun x r h1 h2=>by
  obtain ⟨x1,x2,x3⟩:=x
  rw[hF]
  exact h x1 x2 x3 r h1 h2
theorem BDW {P:Program} {E:Env} {Hs:FuncId→Hint} {a1 a2 a3 a4:Bool×Sy} {sp:a1.2.den×a2.2.den×a3.2.den×a4.2.den→Option T} {F:a1.2.den→a2.2.den→a3.2.den→a4.2.den→(T→Prop)→Prop} {k:Nat} {f:FuncId} (hE:aQ P E) (hm:P.follows .mixedOrders=true) (hn:cD P=true) (hh:e8 E) (hex:∃ fn c,P.funcs[f]? = some fn∧fn.body=some c) (hs:rG [a1,a2,a3,a4]=true) (hF:∀ x1 x2 x3 x4 R,dH bR P E Hs k f (Sh.iZ [a1,a2,a3,a4] (x1,x2,x3,x4)) R=F x1 x2 x3 x4 R)
  (h:∀ x1 x2 x3 x4 r,sp (x1,x2,x3,x4)=some r→b9 [a1,a2,a3,a4] (x1,x2,x3,x4)→F x1 x2 x3 x4 (fun y=>y=r)):aN P f (gS (s:=[a1,a2,a3,a4]) sp) :=
 DA hE hm hn hh k hex hs fun x r h1 h2=>by
  obtain ⟨x1,x2,x3,x4⟩:=x
  rw[hF]
  exact h x1 x2 x3 x4 r h1 h2
open Classical in
noncomputable def gA {α X:Type} (A:X→List T) (sp:X→Option α) (args:List T):Option α:=if h:∃ x,args=A x then sp (Classical.choose h) else none
theorem dS {α X:Type} {A:X→List T} {sp:X→Option α} (hA:∀ x y,A x=A y→x=y) (x:X):gA A sp (A x)=sp x:=by
 unfold gA
 have he:∃ y,A x=A y:=⟨x,rfl⟩
 rw[dif_pos he]
 congr 1
 exact hA _ _ (Classical.choose_spec he).symm
theorem SP {α X:Type} {A:X→List T} {sp:X→Option α} {args:List T} {r:α} (h:gA A sp args=some r):∃ x,args=A x∧sp x=some r:=by
 unfold gA at h
 split at h
 ·rename_i he
  exact ⟨_,Classical.choose_spec he,h⟩
 ·cases h
theorem b7 {P:Program} {E:Env} {Hs:FuncId→Hint} (hE:aQ P E) (hm:P.follows .mixedOrders=true) (hn:cD P=true) (hh:e8 E) (k:Nat) {f:FuncId} {X:Type} {A:X→List T} {sp:X→Option T} (hex:∃ fn c,P.funcs[f]? = some fn∧fn.body=some c)
  (h:∀ x r,sp x=some r→(∀ t∈A x,Bd t)→dH bR P E Hs k f (A x) (fun y=>y=r)):aN P f (gA A sp) :=
 FR hE hm hn hh k hex fun args r hg hb=>by
  obtain ⟨x,rfl,hx⟩:=SP hg
  exact h x r hx hb
theorem BL {P:Program} {E:Env} {Hs:FuncId→Hint} (hE:aQ P E) (hm:P.follows .mixedOrders=true) (hn:cD P=true) (hh:e8 E) (k:Nat) {f:FuncId} {X:Type} {A:X→List T} {sp:X→Option (List (ByteArray×Int))} (hex:∃ fn c,P.funcs[f]? = some fn∧fn.body=some c)
  (h:∀ x r,sp x=some r→(∀ t∈A x,Bd t)→uG bR P E Hs k f (A x) (fun y=>y = .mp (bI r))):jS P f (q8 (gA A sp)) :=
 ZZ hE hm hn hh k hex fun args r hg hb=>by
  unfold q8 at hg
  simp only[Option.map_eq_some_iff] at hg
  obtain ⟨es,hg,rfl⟩:=hg
  obtain ⟨x,rfl,hx⟩:=SP hg
  exact h x es hx hb
theorem jY (A B:Prop):aD true A B=A:=propext ⟨fun h=>h,fun h=>h⟩
theorem mM (A B:Prop):aD false A B=B:=propext ⟨fun h=>h,fun h=>h⟩
theorem ZJ (b:Bool) (A B:Prop):aD b A B=if b=true then A else B:=by cases b<;>rfl
theorem AYY (b:Bool) (K:Prop):bN b K=(b=true∧K):=rfl
theorem cI (x:a6) (K:Prop):eP x x K=K:=by simp[eP]
theorem xK (S:Type) (A:(S→Prop)→Prop) (K:S→Prop):qO S A K=A K:=rfl
theorem sW {r:Sy} {l:List r.den} {i:Nat} {y:r.den}:(List.map r.enc l)[i]? = some (r.enc y)↔l[i]? = some y:=by
 rw[List.getElem?_map]
 cases h:l[i]? with
 | none=>simp
 | some z=>simp only[Option.map_some,Option.some.injEq];exact ⟨Sy.cY r _ _,fun e=>by rw[e]⟩
theorem AOZ (r:Sy) (l:List r.den) (i:Int) (K:r.den→Prop):aS r (List.map r.enc l) i K = ∃ y,0≤i∧l[i.toNat]? = some y∧K y:=by
 simp only[aS,sW]
theorem bD {r:Sy} {l:List r.den} {k:Nat} (h:k<l.length) (K:r.den→Prop):aS r (List.map r.enc l) (k:Int) K=K l[k]:=by
 rw[AOZ]
 apply propext
 constructor
 ·rintro ⟨y,_,h1,h2⟩
  rw[Int.toNat_natCast,List.getElem?_eq_getElem h] at h1
  cases h1;exact h2
 ·exact fun hk=>⟨l[k],by omega,by rw[Int.toNat_natCast,List.getElem?_eq_getElem h],hk⟩
theorem oK {r:Sy} {l:List r.den} {k:Nat} (h:k<l.length) (K:List T→Prop):DE (List.map r.enc l) k K=K (r.enc l[k]):=by
 unfold DE
 have e:(List.map r.enc l)[k]? = some (r.enc l[k]):=sW.2 (List.getElem?_eq_getElem h)
 apply propext
 constructor
 ·rintro ⟨y,h1,h2⟩
  rw[e] at h1;cases h1;exact h2
 ·exact fun hk=>⟨_,e,hk⟩
theorem iL {r:Sy} {l:List r.den} {k:Nat} (h:k<l.length) (K:r.den→Prop):gZ r (List.map r.enc l) k 0 K=K l[k]:=by
 unfold gZ
 have e:(List.map r.enc l)[k]? = some (r.enc l[k]):=sW.2 (List.getElem?_eq_getElem h)
 have e2:((r.enc l[k]).drop 0).take r.w=r.enc l[k]:=by rw[List.drop_zero,←Sy.cP r l[k],List.take_length]
 apply propext
 constructor
 ·rintro ⟨row,y,h1,_,h2,h3⟩
  rw[e] at h1;cases h1
  rw[e2] at h2
  rw[Sy.cY r _ _ h2];exact h3
 ·exact fun hk=>⟨_,_,e,by rw[Sy.cP];omega,e2,hk⟩
theorem ADM:∀ {s:Sh},rG s=true→∀ {x y:Sh.den s},Sh.enc s x=Sh.enc s y→x=y
 | [],_,_,_,_=>rfl
 | [a],h,x,y,he=>lQ (by simpa [rG] using h) he
 | a::b::l,h,x,y,he=>by
  simp only[Sh.enc,T.bU.injEq] at he
  exact KR h he
theorem w4 {s:Sh} (hs:rG s=true) (y:Sh.den s) (K:Sh.den s→Prop):aI s (some (Sh.enc s y)) K=K y:=by
 apply propext
 constructor
 ·rintro ⟨z,h1,h2⟩
  rw[ADM hs (Option.some.inj h1)];exact h2
 ·exact fun hk=>⟨y,rfl,hk⟩
theorem dM {r:Sy} {a:Option (List (List T))} {l:List r.den} (h:a=some (List.map r.enc l)) (K:List r.den→Prop) (hk:K l):eE r a K:=⟨l,h,hk⟩
theorem DG {r:Sy} {l:List r.den} {k:Nat} (h:k<l.length):(List.map r.enc l).set k (r.enc l[k])=List.map r.enc l:=by
 have:(List.map r.enc l)[k]'(by simpa using h)=r.enc l[k]:=by simp
 rw[←this,List.set_getElem_self]
theorem oQ {α:Type} {p:α→Bool} {l:List α} {k:Nat} (h:k<l.length):(l.drop k).find? p=if p l[k]=true then some l[k] else (l.drop (k+1)).find? p:=by
 rw[List.drop_eq_getElem_cons h,List.find?_cons]
 cases p l[k]<;>rfl
theorem aG {s:Sh} {a:Option T} {y:Sh.den s} {K:Sh.den s→Prop} (h:a=some (Sh.enc s y)) (hk:K y):aI s a K:=⟨y,h,hk⟩
def Sy.pure:Sy→Bool
 | .any=>false
 | .pr a b=>a.pure&&b.pure
 | .li r=>r.pure
 | _=>true
theorem jB:∀ {r:Sy} (x:r.den),r.pure=true→(r.enc x).map (T.canon 0)=r.enc x
 | .int _,_,_=>rfl
 | .bool,_,_=>rfl
 | .str,_,_=>rfl
 | .any,_,h=>by simp[Sy.pure] at h
 | .pr a b,x,h=>by
  simp only[Sy.pure,Bool.and_eq_true] at h
  simp only[Sy.enc,List.map_append,jB x.1 h.1,jB x.2 h.2]
 | .li r,_,_=>rfl
theorem KI {r:Sy} (h:r.pure=true) (l:List r.den):jK (List.map r.enc l)=List.map r.enc l:=by
 unfold jK
 rw[List.map_map]
 exact List.map_congr_left fun x _=>jB x h
theorem WO (a b:List (List T)):jK (a++b)=jK a++jK b:=by simp[jK]
theorem dZ {r:Sy} (h:r.pure=true) (l:List r.den) (K:List r.den→Prop):bL r (List.map r.enc l) K=K l:=by
 apply propext
 constructor
 ·rintro ⟨l',h1,h2⟩
  rw[KI h] at h1
  rw[map_inj (Sy.cY r) h1];exact h2
 ·exact fun hk=>⟨l,KI h l,hk⟩
theorem AT9 {r:Sy} (K:List r.den→Prop):bL r [] K=K []:=by
 apply propext
 constructor
 ·rintro ⟨l',h1,h2⟩
  cases l' with
  | nil=>exact h2
  | cons a l=>simp[jK] at h1
 ·exact fun hk=>⟨[],rfl,hk⟩
theorem w6 {r:Sy} (h:r.pure=true) (l:List r.den) (row:List T) (y:r.den) (hy:row.map (T.canon 0)=r.enc y) (K:List r.den→Prop):bL r (List.map r.enc l++[row]) K=K (l++[y]):=by
 have e:jK (List.map r.enc l++[row])=List.map r.enc (l++[y]):=by
  rw[WO,KI h,List.map_append]
  simp[jK,hy]
 apply propext
 constructor
 ·rintro ⟨l',h1,h2⟩
  rw[e] at h1
  rw[map_inj (Sy.cY r) h1];exact h2
 ·exact fun hk=>⟨_,e,hk⟩
theorem bK {S:Type} {F:(S→Prop)→S→Prop} {s:S} (n:Nat) (J:Nat→S→Prop) (h0:J 0 s) (step:∀ (X:S→Prop) (k:Nat) (s:S),k≤n→J k s→(∀ s',k<n→J (k+1) s'→X s')→F X s):a7 S F s:=by
 intro X hX
 have key:∀ m k s,n-k<m→k≤n→J k s→X s:=by
  intro m
  induction m with
  | zero=>intro k s h;omega
  | succ m ih=>intro k s hm hk hj;exact hX s (step X k s hk hj fun s' h1 h2=>ih (k+1) s' (by omega) (by omega) h2)
 exact key (n+1) 0 s (by omega) (by omega) h0
theorem FM {α:Type} {l:List α} {k:Nat}:decide ((k:Int)<(l.length:Int))=decide (k<l.length):=by simp
end Go.Pv
