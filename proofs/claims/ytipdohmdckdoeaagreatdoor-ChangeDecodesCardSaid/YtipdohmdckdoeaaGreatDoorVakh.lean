/-
  The symbolic executor, part h: how one reasons about what it says.
-/
import Derived.Test.YtipdohmdckdoeaaGreatDoorVakg
import Derived.Test.YtipdohmdckdoeaaGreatDoorVawo
set_option linter.defProp false
set_option linter.unusedSimpArgs false
namespace Go.Pv
open Go Go.RowKit
def BdS:(r:Sy)→r.den→Prop
 | .pr a b,x=>BdS a x.1∧BdS b x.2
 | .li r,l=>List.length (α:=r.den) l≤2 ^ 47∧∀ y,List.Mem y (show List r.den from l)→BdS r y
 | .int _,_=>True
 | .bool,_=>True
 | .str,_=>True
 | .any,_=>True
theorem AZ:∀ {r:Sy} {x:r.den},(∀ t∈r.enc x,Bd t)→BdS r x
 | .int _,_,_=>trivial
 | .bool,_,_=>trivial
 | .str,_,_=>trivial
 | .any,_,_=>trivial
 | .pr a b,x,h=>⟨AZ fun t ht=>h t (by simp only[Sy.enc,List.mem_append];exact .inl ht),AZ fun t ht=>h t (by simp only[Sy.enc,List.mem_append];exact .inr ht)⟩
 | .li r,l,h=>by
  have:=(AFV _ _).1 (h (.sl false (List.map r.enc l)) (by simp[Sy.enc]))
  exact ⟨by have h1:(List.map r.enc (show List r.den from l)).length≤2 ^ 47:=this.1;rw[List.length_map] at h1;exact h1,fun y hy=>AZ fun t ht=>this.2 (r.enc y) (List.mem_map.2 ⟨y,hy,rfl⟩) t ht⟩
theorem PA {ag:Bool} {r:Sy} {x:r.den} (hw:(ag||r.w == 1)=true) (h:Bd (aG ag r x)):BdS r x:=by
 cases ag with
 | true=>exact AZ ((UN _).1 h)
 | false =>
  have hl:(r.enc x).length=1:=by rw[Sy.cP];simpa using hw
  obtain ⟨u,hu⟩:=List.length_eq_one_iff.1 hl
  refine AZ fun t ht=>?_
  rw[hu] at ht
  simp only[aG,hu,hdT] at h
  rw[List.mem_singleton.1 ht];exact h
def uE (s:Sh):Bool:=s.all fun x=>x.1||x.2.w == 1
theorem JM {ag:Bool} {r:Sy} (hw:(ag||r.w == 1)=true) {x y:r.den} (h:aG ag r x=aG ag r y):x=y:=by
 cases ag with
 | true=>simp only[aG,T.agg.injEq] at h;exact Sy.gH r _ _ h
 | false =>
  have hx:(r.enc x).length=1:=by rw[Sy.cP];simpa using hw
  have hy:(r.enc y).length=1:=by rw[Sy.cP];simpa using hw
  obtain ⟨u,hu⟩:=List.length_eq_one_iff.1 hx
  obtain ⟨v,hv⟩:=List.length_eq_one_iff.1 hy
  simp only[aG,hu,hv,hdT] at h
  exact Sy.gH r _ _ (by rw[hu,hv,h])
theorem JN:∀ {s:Sh},uE s=true→∀ {x y:Sh.den s},Sh.fS s x=Sh.fS s y→x=y
 | [],_,_,_,_=>rfl
 | [a],h,x,y,he=>by
  simp only[Sh.fS,List.cons.injEq] at he
  exact JM (by simpa [uE] using h) he.1
 | a::b::l,h,x,y,he=>by
  have h':(a.1||a.2.w == 1)=true∧uE (b::l)=true:=by
   unfold uE at h ⊢
   rw[List.all_cons,Bool.and_eq_true] at h
   exact h
  simp only[Sh.fS,List.cons.injEq] at he
  exact Prod.ext (JM h'.1 he.1) (JN h'.2 he.2)
def fF:(s:Sh)→Sh.den s→Prop
 | [],_=>True
 | [a],x=>BdS a.2 x
 | a::b::l,x=>BdS a.2 x.1∧fF (b::l) x.2
theorem GN:∀ {s:Sh},uE s=true→∀ {x:Sh.den s},(∀ t∈Sh.fS s x,Bd t)→fF s x
 | [],_,_,_=>trivial
 | [a],h,x,hb=>PA (by simpa [uE] using h) (hb _ (by simp[Sh.fS]))
 | a::b::l,h,x,hb=>by
  have h':(a.1||a.2.w == 1)=true∧uE (b::l)=true:=by
   unfold uE at h ⊢
   rw[List.all_cons,Bool.and_eq_true] at h
   exact h
  exact ⟨PA h'.1 (hb _ (by simp[Sh.fS])),GN h'.2 fun t ht=>hb t (by simp only[Sh.fS,List.mem_cons];exact .inr ht)⟩
open Classical in
noncomputable def gS {α:Type} (s:Sh) (sp:Sh.den s→Option α) (args:List T):Option α:=if h:∃ x,args=Sh.fS s x then sp (Classical.choose h) else none
theorem cG {α:Type} {s:Sh} (hs:uE s=true) {sp:Sh.den s→Option α} {args:List T} (x:Sh.den s) (h:args=Sh.fS s x):gS s sp args=sp x:=by
 unfold gS
 have he:∃ x,args=Sh.fS s x:=⟨x,h⟩
 rw[dif_pos he]
 congr 1
 exact JN hs ((Classical.choose_spec he).symm.trans h)
theorem G1 {α:Type} {s:Sh} {sp:Sh.den s→Option α} {args:List T} {r:α} (h:gS s sp args=some r):∃ x,args=Sh.fS s x∧sp x=some r:=by
 unfold gS at h
 split at h
 ·rename_i he
  exact ⟨_,Classical.choose_spec he,h⟩
 ·cases h
theorem K3 {P:Program} {E:Env} {Hs:FuncId→Hint} (hE:aH P E) (hm:P.follows .mixedOrders=true) (hn:cH P=true) (hh:eT E) (k:Nat) {f:FuncId} {s:Sh} {sp:Sh.den s→Option T} (hex:∃ fn c,P.funcs[f]? = some fn∧fn.body=some c) (hs:uE s=true)
  (h:∀ x r,sp x=some r→fF s x→yP b9 P E Hs k f (Sh.fS s x) (fun y=>y=r)):aZ P f (gS s sp) :=
 E9 hE hm hn hh k hex fun args r hg hb=>by
  obtain ⟨x,rfl,hx⟩:=G1 hg
  exact h x r hx (GN hs hb)
def P4:List (Nat×LH)→Nat→LH
 | [],_=>.none
 | (a,h)::l,r=>match r == a with
  | true=>h
  | false=>P4 l r
def fM (f:FuncId) (l:List (Nat×LH)) (n:FuncId→Hint):FuncId→Hint:=fun g=>match g == f with
 | true=>⟨P4 l,fun _ _=>none,fun _=>none⟩
 | false=>n g
abbrev RO (P:Program) (f:FuncId) (g:List T→Option T) {A1:Type} (sp:A1→Option T) (B:A1→Prop) (F:A1→(T→Prop)→Prop):Prop:=(∀ (x1:A1) r,sp x1=some r→B x1→F x1 (fun y=>y=r))→aZ P f g
abbrev Of2 (P:Program) (f:FuncId) (g:List T→Option T) {A1 A2:Type} (sp:A1×A2→Option T) (B:A1×A2→Prop) (F:A1→A2→(T→Prop)→Prop):Prop:=(∀ (x1:A1) (x2:A2) r,sp (x1,x2)=some r→B (x1,x2)→F x1 x2 (fun y=>y=r))→aZ P f g
theorem xL {P:Program} {E:Env} {Hs:FuncId→Hint} {a1:Bool×Sy} {sp:a1.2.den→Option T} {F:a1.2.den→(T→Prop)→Prop} {k:Nat} {f:FuncId} (hE:aH P E) (hm:P.follows .mixedOrders=true) (hn:cH P=true) (hh:eT E) (hex:∃ fn c,P.funcs[f]? = some fn∧fn.body=some c) (hs:uE [a1]=true) (hF:∀ x1 R,yP b9 P E Hs k f (Sh.fS [a1] x1) R=F x1 R)
  (h:∀ x1 r,sp x1=some r→fF [a1] x1→F x1 (fun y=>y=r)):aZ P f (gS (s:=[a1]) sp) :=
 K3 hE hm hn hh k hex hs fun x r h1 h2=>by
  rw[hF]
  exact h x r h1 h2
theorem HI {P:Program} {E:Env} {Hs:FuncId→Hint} {a1 a2:Bool×Sy} {sp:a1.2.den×a2.2.den→Option T} {F:a1.2.den→a2.2.den→(T→Prop)→Prop} {k:Nat} {f:FuncId} (hE:aH P E) (hm:P.follows .mixedOrders=true) (hn:cH P=true) (hh:eT E) (hex:∃ fn c,P.funcs[f]? = some fn∧fn.body=some c) (hs:uE [a1,a2]=true) (hF:∀ x1 x2 R,yP b9 P E Hs k f (Sh.fS [a1,a2] (x1,x2)) R=F x1 x2 R)
  (h:∀ x1 x2 r,sp (x1,x2)=some r→fF [a1,a2] (x1,x2)→F x1 x2 (fun y=>y=r)):aZ P f (gS (s:=[a1,a2]) sp) :=
 K3 hE hm hn hh k hex hs fun x r h1 h2=>by
  obtain ⟨x1,x2⟩:=x
  rw[hF]
  exact h x1 x2 r h1 h2
open Classical in
noncomputable def gA {α X:Type} (A:X→List T) (sp:X→Option α) (args:List T):Option α:=if h:∃ x,args=A x then sp (Classical.choose h) else none
theorem AC2 {α X:Type} {A:X→List T} {sp:X→Option α} (hA:∀ x y,A x=A y→x=y) (x:X):gA A sp (A x)=sp x:=by
 unfold gA
 have he:∃ y,A x=A y:=⟨x,rfl⟩
 rw[dif_pos he]
 congr 1
 exact hA _ _ (Classical.choose_spec he).symm
theorem ABM {α X:Type} {A:X→List T} {sp:X→Option α} {args:List T} {r:α} (h:gA A sp args=some r):∃ x,args=A x∧sp x=some r:=by
 unfold gA at h
 split at h
 ·rename_i he
  exact ⟨_,Classical.choose_spec he,h⟩
 ·cases h
theorem K2 {P:Program} {E:Env} {Hs:FuncId→Hint} (hE:aH P E) (hm:P.follows .mixedOrders=true) (hn:cH P=true) (hh:eT E) (k:Nat) {f:FuncId} {X:Type} {A:X→List T} {sp:X→Option T} (hex:∃ fn c,P.funcs[f]? = some fn∧fn.body=some c)
  (h:∀ x r,sp x=some r→(∀ t∈A x,Bd t)→yP b9 P E Hs k f (A x) (fun y=>y=r)):aZ P f (gA A sp) :=
 E9 hE hm hn hh k hex fun args r hg hb=>by
  obtain ⟨x,rfl,hx⟩:=ABM hg
  exact h x r hx hb
theorem NS (A B:Prop):aF true A B=A:=propext ⟨fun h=>h,fun h=>h⟩
theorem WS (A B:Prop):aF false A B=B:=propext ⟨fun h=>h,fun h=>h⟩
theorem zI {r:Sy} {l:List r.den} {i:Nat} {y:r.den}:(List.map r.enc l)[i]? = some (r.enc y)↔l[i]? = some y:=by
 rw[List.getElem?_map]
 cases h:l[i]? with
 | none=>simp
 | some z=>simp only[Option.map_some,Option.some.injEq];exact ⟨Sy.gH r _ _,fun e=>by rw[e]⟩
theorem T5 (r:Sy) (l:List r.den) (i:Int) (K:r.den→Prop):a7 r (List.map r.enc l) i K = ∃ y,0≤i∧l[i.toNat]? = some y∧K y:=by
 simp only[a7,zI]
theorem cK {r:Sy} {l:List r.den} {k:Nat} (h:k<l.length) (K:r.den→Prop):a7 r (List.map r.enc l) (k:Int) K=K l[k]:=by
 rw[T5]
 apply propext
 constructor
 ·rintro ⟨y,_,h1,h2⟩
  rw[Int.toNat_natCast,List.getElem?_eq_getElem h] at h1
  cases h1;exact h2
 ·exact fun hk=>⟨l[k],by omega,by rw[Int.toNat_natCast,List.getElem?_eq_getElem h],hk⟩
theorem YP {r:Sy} {l:List r.den} {k:Nat} (h:k<l.length) (K:r.den→Prop):fW r (List.map r.enc l) k 0 K=K l[k]:=by
 unfold fW
 have e:(List.map r.enc l)[k]? = some (r.enc l[k]):=zI.2 (List.getElem?_eq_getElem h)
 have e2:((r.enc l[k]).drop 0).take r.w=r.enc l[k]:=by rw[List.drop_zero,←Sy.cP r l[k],List.take_length]
 apply propext
 constructor
 ·rintro ⟨row,y,h1,_,h2,h3⟩
  rw[e] at h1;cases h1
  rw[e2] at h2
  rw[Sy.gH r _ _ h2];exact h3
 ·exact fun hk=>⟨_,_,e,by rw[Sy.cP];omega,e2,hk⟩
theorem aM {s:Sh} {a:Option T} {y:Sh.den s} {K:Sh.den s→Prop} (h:a=some (Sh.enc s y)) (hk:K y):aE s a K:=⟨y,h,hk⟩
def Sy.pure:Sy→Bool
 | .any=>false
 | .pr a b=>a.pure&&b.pure
 | .li r=>r.pure
 | _=>true
theorem sK:∀ {r:Sy} (x:r.den),r.pure=true→(r.enc x).map (T.canon 0)=r.enc x
 | .int _,_,_=>rfl
 | .bool,_,_=>rfl
 | .str,_,_=>rfl
 | .any,_,h=>by simp[Sy.pure] at h
 | .pr a b,x,h=>by
  simp only[Sy.pure,Bool.and_eq_true] at h
  simp only[Sy.enc,List.map_append,sK x.1 h.1,sK x.2 h.2]
 | .li r,_,_=>rfl
theorem A8 {r:Sy} (h:r.pure=true) (l:List r.den):fI (List.map r.enc l)=List.map r.enc l:=by
 unfold fI
 rw[List.map_map]
 exact List.map_congr_left fun x _=>sK x h
theorem x4 (a b:List (List T)):fI (a++b)=fI a++fI b:=by simp[fI]
theorem j6 {r:Sy} (h:r.pure=true) (l:List r.den) (K:List r.den→Prop):bP r (List.map r.enc l) K=K l:=by
 apply propext
 constructor
 ·rintro ⟨l',h1,h2⟩
  rw[A8 h] at h1
  rw[map_inj (Sy.gH r) h1];exact h2
 ·exact fun hk=>⟨l,A8 h l,hk⟩
theorem R1 {r:Sy} (h:r.pure=true) (l:List r.den) (row:List T) (y:r.den) (hy:row.map (T.canon 0)=r.enc y) (K:List r.den→Prop):bP r (List.map r.enc l++[row]) K=K (l++[y]):=by
 have e:fI (List.map r.enc l++[row])=List.map r.enc (l++[y]):=by
  rw[x4,A8 h,List.map_append]
  simp[fI,hy]
 apply propext
 constructor
 ·rintro ⟨l',h1,h2⟩
  rw[e] at h1
  rw[map_inj (Sy.gH r) h1];exact h2
 ·exact fun hk=>⟨_,e,hk⟩
theorem S4 {S:Type} {F:(S→Prop)→S→Prop} {s:S} (I:S→Prop) (μ:S→Nat) (h0:I s) (step:∀ (X:S→Prop) (s:S),I s→(∀ s',I s'→μ s'<μ s→X s')→F X s):bM S F s:=by
 intro X hX
 have key:∀ n s,μ s<n→I s→X s:=by
  intro n
  induction n with
  | zero=>intro s h;omega
  | succ n ih=>intro s hn hi;exact hX s (step X s hi fun s' h1 h2=>ih s' (by omega) h1)
 exact key (μ s+1) s (by omega) h0
theorem cS {S:Type} {F:(S→Prop)→S→Prop} {s:S} (n:Nat) (J:Nat→S→Prop) (h0:J 0 s) (step:∀ (X:S→Prop) (k:Nat) (s:S),k≤n→J k s→(∀ s',k<n→J (k+1) s'→X s')→F X s):bM S F s:=by
 intro X hX
 have key:∀ m k s,n-k<m→k≤n→J k s→X s:=by
  intro m
  induction m with
  | zero=>intro k s h;omega
  | succ m ih=>intro k s hm hk hj;exact hX s (step X k s hk hj fun s' h1 h2=>ih (k+1) s' (by omega) (by omega) h2)
 exact key (n+1) 0 s (by omega) (by omega) h0
end Go.Pv
