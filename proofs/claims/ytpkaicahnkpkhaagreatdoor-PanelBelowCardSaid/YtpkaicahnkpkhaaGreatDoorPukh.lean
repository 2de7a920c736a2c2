/-
  The symbolic executor, part h: how one reasons about what it says.
-/
import Derived.Test.YtpkaicahnkpkhaaGreatDoorPukg
import Derived.Test.YtpkaicahnkpkhaaGreatDoorPuwo
set_option linter.unusedSimpArgs false
namespace Go.Pv
open Go Go.RowKit
def BdS:(r:Sy)→r.den→Prop
 | .pr a b,x=>BdS a x.1∧BdS b x.2
 | .li r,l=>List.length (α:=r.den) l≤2 ^ 47∧∀ y,List.Mem y (show List r.den from l)→BdS r y
 | .int _,_=>True
 | .bool,_=>True
 | .str,_=>True
 | .any,_=>True
theorem G1:∀ {r:Sy} {x:r.den},(∀ t∈r.enc x,Bd t)→BdS r x
 | .int _,_,_=>trivial
 | .bool,_,_=>trivial
 | .str,_,_=>trivial
 | .any,_,_=>trivial
 | .pr a b,x,h=>⟨G1 fun t ht=>h t (by simp only[Sy.enc,List.mem_append];exact .inl ht),G1 fun t ht=>h t (by simp only[Sy.enc,List.mem_append];exact .inr ht)⟩
 | .li r,l,h=>by
  have:=(AU0 _ _).1 (h (.sl false (List.map r.enc l)) (by simp[Sy.enc]))
  exact ⟨by have h1:(List.map r.enc (show List r.den from l)).length≤2 ^ 47:=this.1;rw[List.length_map] at h1;exact h1,fun y hy=>G1 fun t ht=>this.2 (r.enc y) (List.mem_map.2 ⟨y,hy,rfl⟩) t ht⟩
theorem AB6 {ag:Bool} {r:Sy} {x:r.den} (hw:(ag||r.w == 1)=true) (h:Bd (aD ag r x)):BdS r x:=by
 cases ag with
 | true=>exact G1 ((AR4 _).1 h)
 | false =>
  have hl:(r.enc x).length=1:=by rw[Sy.dG];simpa using hw
  obtain ⟨u,hu⟩:=List.length_eq_one_iff.1 hl
  refine G1 fun t ht=>?_
  rw[hu] at ht
  simp only[aD,hu,hdT] at h
  rw[List.mem_singleton.1 ht];exact h
def uR (s:Sh):Bool:=s.all fun x=>x.1||x.2.w == 1
theorem HC {ag:Bool} {r:Sy} (hw:(ag||r.w == 1)=true) {x y:r.den} (h:aD ag r x=aD ag r y):x=y:=by
 cases ag with
 | true=>simp only[aD,T.agg.injEq] at h;exact Sy.cS r _ _ h
 | false =>
  have hx:(r.enc x).length=1:=by rw[Sy.dG];simpa using hw
  have hy:(r.enc y).length=1:=by rw[Sy.dG];simpa using hw
  obtain ⟨u,hu⟩:=List.length_eq_one_iff.1 hx
  obtain ⟨v,hv⟩:=List.length_eq_one_iff.1 hy
  simp only[aD,hu,hv,hdT] at h
  exact Sy.cS r _ _ (by rw[hu,hv,h])
theorem HD:∀ {s:Sh},uR s=true→∀ {x y:Sh.den s},Sh.cA s x=Sh.cA s y→x=y
 | [],_,_,_,_=>rfl
 | [a],h,x,y,he=>by
  simp only[Sh.cA,List.cons.injEq] at he
  exact HC (by simpa [uR] using h) he.1
 | a::b::l,h,x,y,he=>by
  have h':(a.1||a.2.w == 1)=true∧uR (b::l)=true:=by
   unfold uR at h ⊢
   rw[List.all_cons,Bool.and_eq_true] at h
   exact h
  simp only[Sh.cA,List.cons.injEq] at he
  exact Prod.ext (HC h'.1 he.1) (HD h'.2 he.2)
def cR:(s:Sh)→Sh.den s→Prop
 | [],_=>True
 | [a],x=>BdS a.2 x
 | a::b::l,x=>BdS a.2 x.1∧cR (b::l) x.2
theorem OC:∀ {s:Sh},uR s=true→∀ {x:Sh.den s},(∀ t∈Sh.cA s x,Bd t)→cR s x
 | [],_,_,_=>trivial
 | [a],h,x,hb=>AB6 (by simpa [uR] using h) (hb _ (by simp[Sh.cA]))
 | a::b::l,h,x,hb=>by
  have h':(a.1||a.2.w == 1)=true∧uR (b::l)=true:=by
   unfold uR at h ⊢
   rw[List.all_cons,Bool.and_eq_true] at h
   exact h
  exact ⟨AB6 h'.1 (hb _ (by simp[Sh.cA])),OC h'.2 fun t ht=>hb t (by simp only[Sh.cA,List.mem_cons];exact .inr ht)⟩
open Classical in
noncomputable def gS {α:Type} (s:Sh) (sp:Sh.den s→Option α) (args:List T):Option α:=if h:∃ x,args=Sh.cA s x then sp (Classical.choose h) else none
theorem bH {α:Type} {s:Sh} (hs:uR s=true) {sp:Sh.den s→Option α} {args:List T} (x:Sh.den s) (h:args=Sh.cA s x):gS s sp args=sp x:=by
 unfold gS
 have he:∃ x,args=Sh.cA s x:=⟨x,h⟩
 rw[dif_pos he]
 congr 1
 exact HD hs ((Classical.choose_spec he).symm.trans h)
theorem xL {α:Type} {s:Sh} {sp:Sh.den s→Option α} {args:List T} {r:α} (h:gS s sp args=some r):∃ x,args=Sh.cA s x∧sp x=some r:=by
 unfold gS at h
 split at h
 ·rename_i he
  exact ⟨_,Classical.choose_spec he,h⟩
 ·cases h
theorem aX {P:Program} {E:Env} {Hs:FuncId→Hint} (hE:aF P E) (hm:P.follows .mixedOrders=true) (hn:cX P=true) (hh:gO E) (k:Nat) {f:FuncId} {s:Sh} {sp:Sh.den s→Option T} (hex:∃ fn c,P.funcs[f]? = some fn∧fn.body=some c) (hs:uR s=true)
  (h:∀ x r,sp x=some r→cR s x→bJ aV P E Hs k f (Sh.cA s x) (fun y=>y=r)):aJ P f (gS s sp) :=
 B3 hE hm hn hh k hex fun args r hg hb=>by
  obtain ⟨x,rfl,hx⟩:=xL hg
  exact h x r hx (OC hs hb)
theorem AP9 {P:Program} {E:Env} {Hs:FuncId→Hint} (hE:aF P E) (hm:P.follows .mixedOrders=true) (hn:cX P=true) (hh:gO E) (k:Nat) {f:FuncId} {s:Sh} {sp:Sh.den s→Option T} (hex:∃ fn c,P.funcs[f]? = some fn∧fn.body=some c) (hs:uR s=true)
  (h:∀ x r,sp x=some r→cR s x→qZ aV P E Hs k f (Sh.cA s x) (fun y=>y=r)):iB P f (gS s sp) :=
 VD hE hm hn hh k hex fun args r hg hb=>by
  obtain ⟨x,rfl,hx⟩:=xL hg
  exact h x r hx (OC hs hb)
open Classical in
noncomputable def gA {α X:Type} (A:X→List T) (sp:X→Option α) (args:List T):Option α:=if h:∃ x,args=A x then sp (Classical.choose h) else none
theorem j1 {α X:Type} {A:X→List T} {sp:X→Option α} (hA:∀ x y,A x=A y→x=y) (x:X):gA A sp (A x)=sp x:=by
 unfold gA
 have he:∃ y,A x=A y:=⟨x,rfl⟩
 rw[dif_pos he]
 congr 1
 exact hA _ _ (Classical.choose_spec he).symm
theorem ACI {α X:Type} {A:X→List T} {sp:X→Option α} {args:List T} {r:α} (h:gA A sp args=some r):∃ x,args=A x∧sp x=some r:=by
 unfold gA at h
 split at h
 ·rename_i he
  exact ⟨_,Classical.choose_spec he,h⟩
 ·cases h
theorem eC {P:Program} {E:Env} {Hs:FuncId→Hint} (hE:aF P E) (hm:P.follows .mixedOrders=true) (hn:cX P=true) (hh:gO E) (k:Nat) {f:FuncId} {X:Type} {A:X→List T} {sp:X→Option T} (hex:∃ fn c,P.funcs[f]? = some fn∧fn.body=some c)
  (h:∀ x r,sp x=some r→(∀ t∈A x,Bd t)→bJ aV P E Hs k f (A x) (fun y=>y=r)):aJ P f (gA A sp) :=
 B3 hE hm hn hh k hex fun args r hg hb=>by
  obtain ⟨x,rfl,hx⟩:=ACI hg
  exact h x r hx hb
theorem xH {P:Program} {E:Env} {Hs:FuncId→Hint} (hE:aF P E) (hm:P.follows .mixedOrders=true) (hn:cX P=true) (hh:gO E) (k:Nat) {f:FuncId} {X:Type} {A:X→List T} {sp:X→Option (List (ByteArray×Int))} (hex:∃ fn c,P.funcs[f]? = some fn∧fn.body=some c)
  (h:∀ x r,sp x=some r→(∀ t∈A x,Bd t)→qZ aV P E Hs k f (A x) (fun y=>y = .mp (a8 r))):iB P f (oI (gA A sp)) :=
 VD hE hm hn hh k hex fun args r hg hb=>by
  unfold oI at hg
  simp only[Option.map_eq_some_iff] at hg
  obtain ⟨es,hg,rfl⟩:=hg
  obtain ⟨x,rfl,hx⟩:=ACI hg
  exact h x es hx hb
theorem dE (A B:Prop):aB true A B=A:=propext ⟨fun h=>h,fun h=>h⟩
theorem eA (A B:Prop):aB false A B=B:=propext ⟨fun h=>h,fun h=>h⟩
theorem IB (b:Bool) (A B:Prop):aB b A B=if b=true then A else B:=by cases b<;>rfl
theorem AM8 (b:Bool) (K:Prop):bO b K=(b=true∧K):=rfl
theorem cD (x:aS) (K:Prop):eJ x x K=K:=by simp[eJ]
theorem mH (S:Type) (A:(S→Prop)→Prop) (K:S→Prop):kB S A K=A K:=rfl
theorem OI {r:Sy} {l:List r.den} {i:Nat} {y:r.den}:(List.map r.enc l)[i]? = some (r.enc y)↔l[i]? = some y:=by
 rw[List.getElem?_map]
 cases h:l[i]? with
 | none=>simp
 | some z=>simp only[Option.map_some,Option.some.injEq];exact ⟨Sy.cS r _ _,fun e=>by rw[e]⟩
theorem AHS (r:Sy) (l:List r.den) (i:Int) (K:r.den→Prop):aP r (List.map r.enc l) i K = ∃ y,0≤i∧l[i.toNat]? = some y∧K y:=by
 simp only[aP,OI]
theorem aT {r:Sy} {l:List r.den} {k:Nat} (h:k<l.length) (K:r.den→Prop):aP r (List.map r.enc l) (k:Int) K=K l[k]:=by
 rw[AHS]
 apply propext
 constructor
 ·rintro ⟨y,_,h1,h2⟩
  rw[Int.toNat_natCast,List.getElem?_eq_getElem h] at h1
  cases h1;exact h2
 ·exact fun hk=>⟨l[k],by omega,by rw[Int.toNat_natCast,List.getElem?_eq_getElem h],hk⟩
theorem EP {r:Sy} {l:List r.den} {k:Nat} (h:k<l.length) (K:List T→Prop):AA1 (List.map r.enc l) k K=K (r.enc l[k]):=by
 unfold AA1
 have e:(List.map r.enc l)[k]? = some (r.enc l[k]):=OI.2 (List.getElem?_eq_getElem h)
 apply propext
 constructor
 ·rintro ⟨y,h1,h2⟩
  rw[e] at h1;cases h1;exact h2
 ·exact fun hk=>⟨_,e,hk⟩
theorem j6 {r:Sy} {l:List r.den} {k:Nat} (h:k<l.length) (K:r.den→Prop):lG r (List.map r.enc l) k 0 K=K l[k]:=by
 unfold lG
 have e:(List.map r.enc l)[k]? = some (r.enc l[k]):=OI.2 (List.getElem?_eq_getElem h)
 have e2:((r.enc l[k]).drop 0).take r.w=r.enc l[k]:=by rw[List.drop_zero,←Sy.dG r l[k],List.take_length]
 apply propext
 constructor
 ·rintro ⟨row,y,h1,_,h2,h3⟩
  rw[e] at h1;cases h1
  rw[e2] at h2
  rw[Sy.cS r _ _ h2];exact h3
 ·exact fun hk=>⟨_,_,e,by rw[Sy.dG];omega,e2,hk⟩
theorem ZD:∀ {s:Sh},uR s=true→∀ {x y:Sh.den s},Sh.enc s x=Sh.enc s y→x=y
 | [],_,_,_,_=>rfl
 | [a],h,x,y,he=>HC (by simpa [uR] using h) he
 | a::b::l,h,x,y,he=>by
  simp only[Sh.enc,T.cF.injEq] at he
  exact HD h he
theorem kF {s:Sh} (hs:uR s=true) (y:Sh.den s) (K:Sh.den s→Prop):aH s (some (Sh.enc s y)) K=K y:=by
 apply propext
 constructor
 ·rintro ⟨z,h1,h2⟩
  rw[ZD hs (Option.some.inj h1)];exact h2
 ·exact fun hk=>⟨y,rfl,hk⟩
theorem AFX {r:Sy} {a:Option (List (List T))} {l:List r.den} (h:a=some (List.map r.enc l)) (K:List r.den→Prop) (hk:K l):ZS r a K:=⟨l,h,hk⟩
theorem ANJ {r:Sy} {l:List r.den} {k:Nat} (h:k<l.length):(List.map r.enc l).set k (r.enc l[k])=List.map r.enc l:=by
 have:(List.map r.enc l)[k]'(by simpa using h)=r.enc l[k]:=by simp
 rw[←this,List.set_getElem_self]
theorem oZ {α:Type} {p:α→Bool} {l:List α} {k:Nat} (h:k<l.length):(l.drop k).find? p=if p l[k]=true then some l[k] else (l.drop (k+1)).find? p:=by
 rw[List.drop_eq_getElem_cons h,List.find?_cons]
 cases p l[k]<;>rfl
theorem aG {s:Sh} {a:Option T} {y:Sh.den s} {K:Sh.den s→Prop} (h:a=some (Sh.enc s y)) (hk:K y):aH s a K:=⟨y,h,hk⟩
def Sy.pure:Sy→Bool
 | .any=>false
 | .pr a b=>a.pure&&b.pure
 | .li r=>r.pure
 | _=>true
theorem vM:∀ {r:Sy} (x:r.den),r.pure=true→(r.enc x).map (T.canon 0)=r.enc x
 | .int _,_,_=>rfl
 | .bool,_,_=>rfl
 | .str,_,_=>rfl
 | .any,_,h=>by simp[Sy.pure] at h
 | .pr a b,x,h=>by
  simp only[Sy.pure,Bool.and_eq_true] at h
  simp only[Sy.enc,List.map_append,vM x.1 h.1,vM x.2 h.2]
 | .li r,_,_=>rfl
theorem G5 {r:Sy} (h:r.pure=true) (l:List r.den):iM (List.map r.enc l)=List.map r.enc l:=by
 unfold iM
 rw[List.map_map]
 exact List.map_congr_left fun x _=>vM x h
theorem SX (a b:List (List T)):iM (a++b)=iM a++iM b:=by simp[iM]
theorem c9 {r:Sy} (h:r.pure=true) (l:List r.den) (K:List r.den→Prop):bA r (List.map r.enc l) K=K l:=by
 apply propext
 constructor
 ·rintro ⟨l',h1,h2⟩
  rw[G5 h] at h1
  rw[map_inj (Sy.cS r) h1];exact h2
 ·exact fun hk=>⟨l,G5 h l,hk⟩
theorem S6 {r:Sy} (K:List r.den→Prop):bA r [] K=K []:=by
 apply propext
 constructor
 ·rintro ⟨l',h1,h2⟩
  cases l' with
  | nil=>exact h2
  | cons a l=>simp[iM] at h1
 ·exact fun hk=>⟨[],rfl,hk⟩
theorem AG {r:Sy} (h:r.pure=true) (l:List r.den) (row:List T) (y:r.den) (hy:row.map (T.canon 0)=r.enc y) (K:List r.den→Prop):bA r (List.map r.enc l++[row]) K=K (l++[y]):=by
 have e:iM (List.map r.enc l++[row])=List.map r.enc (l++[y]):=by
  rw[SX,G5 h,List.map_append]
  simp[iM,hy]
 apply propext
 constructor
 ·rintro ⟨l',h1,h2⟩
  rw[e] at h1
  rw[map_inj (Sy.cS r) h1];exact h2
 ·exact fun hk=>⟨_,e,hk⟩
theorem AGH {S:Type} {F:(S→Prop)→S→Prop} {s:S} (I:S→Prop) (μ:S→Nat) (h0:I s) (step:∀ (X:S→Prop) (s:S),I s→(∀ s',I s'→μ s'<μ s→X s')→F X s):bB S F s:=by
 intro X hX
 have key:∀ n s,μ s<n→I s→X s:=by
  intro n
  induction n with
  | zero=>intro s h;omega
  | succ n ih=>intro s hn hi;exact hX s (step X s hi fun s' h1 h2=>ih s' (by omega) h1)
 exact key (μ s+1) s (by omega) h0
theorem aY {S:Type} {F:(S→Prop)→S→Prop} {s:S} (n:Nat) (J:Nat→S→Prop) (h0:J 0 s) (step:∀ (X:S→Prop) (k:Nat) (s:S),k≤n→J k s→(∀ s',k<n→J (k+1) s'→X s')→F X s):bB S F s:=by
 intro X hX
 have key:∀ m k s,n-k<m→k≤n→J k s→X s:=by
  intro m
  induction m with
  | zero=>intro k s h;omega
  | succ m ih=>intro k s hm hk hj;exact hX s (step X k s hk hj fun s' h1 h2=>ih (k+1) s' (by omega) (by omega) h2)
 exact key (n+1) 0 s (by omega) (by omega) h0
theorem BT {α:Type} {l:List α} {k:Nat}:decide ((k:Int)<(l.length:Int))=decide (k<l.length):=by simp
end Go.Pv
