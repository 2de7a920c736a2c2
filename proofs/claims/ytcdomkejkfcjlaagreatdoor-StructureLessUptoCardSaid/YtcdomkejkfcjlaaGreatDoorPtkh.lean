/-
  The symbolic executor, part h: how one reasons about what it says.
-/
import Derived.Test.YtcdomkejkfcjlaaGreatDoorPtkg
import Derived.Test.YtcdomkejkfcjlaaGreatDoorPtwo
set_option linter.unusedSimpArgs false
namespace Go.Pv
open Go Go.RowKit
def BdS:(r:Sy)→r.den→Prop
 | .pr a b,x=>BdS a x.1∧BdS b x.2
 | .li r,l=>List.length (α:=r.den) l≤2 ^ 47∧∀ y,List.Mem y (show List r.den from l)→BdS r y
 | .int _,_=>True
 | .bool,_=>True
 | .str,_=>True
 | .any,_=>True
theorem PY:∀ {r:Sy} {x:r.den},(∀ t∈r.enc x,Bd t)→BdS r x
 | .int _,_,_=>trivial
 | .bool,_,_=>trivial
 | .str,_,_=>trivial
 | .any,_,_=>trivial
 | .pr a b,x,h=>⟨PY fun t ht=>h t (by simp only[Sy.enc,List.mem_append];exact .inl ht),PY fun t ht=>h t (by simp only[Sy.enc,List.mem_append];exact .inr ht)⟩
 | .li r,l,h=>by
  have:=(A8Y _ _).1 (h (.sl false (List.map r.enc l)) (by simp[Sy.enc]))
  exact ⟨by have h1:(List.map r.enc (show List r.den from l)).length≤2 ^ 47:=this.1;rw[List.length_map] at h1;exact h1,fun y hy=>PY fun t ht=>this.2 (r.enc y) (List.mem_map.2 ⟨y,hy,rfl⟩) t ht⟩
theorem AP8 {ag:Bool} {r:Sy} {x:r.den} (hw:(ag||r.w == 1)=true) (h:Bd (aC ag r x)):BdS r x:=by
 cases ag with
 | true=>exact PY ((A56 _).1 h)
 | false =>
  have hl:(r.enc x).length=1:=by rw[Sy.eD];simpa using hw
  obtain ⟨u,hu⟩:=List.length_eq_one_iff.1 hl
  refine PY fun t ht=>?_
  rw[hu] at ht
  simp only[aC,hu,hdT] at h
  rw[List.mem_singleton.1 ht];exact h
def CY (s:Sh):Bool:=s.all fun x=>x.1||x.2.w == 1
theorem QB {ag:Bool} {r:Sy} (hw:(ag||r.w == 1)=true) {x y:r.den} (h:aC ag r x=aC ag r y):x=y:=by
 cases ag with
 | true=>simp only[aC,T.agg.injEq] at h;exact Sy.dV r _ _ h
 | false =>
  have hx:(r.enc x).length=1:=by rw[Sy.eD];simpa using hw
  have hy:(r.enc y).length=1:=by rw[Sy.eD];simpa using hw
  obtain ⟨u,hu⟩:=List.length_eq_one_iff.1 hx
  obtain ⟨v,hv⟩:=List.length_eq_one_iff.1 hy
  simp only[aC,hu,hv,hdT] at h
  exact Sy.dV r _ _ (by rw[hu,hv,h])
theorem QC:∀ {s:Sh},CY s=true→∀ {x y:Sh.den s},Sh.bN s x=Sh.bN s y→x=y
 | [],_,_,_,_=>rfl
 | [a],h,x,y,he=>by
  simp only[Sh.bN,List.cons.injEq] at he
  exact QB (by simpa [CY] using h) he.1
 | a::b::l,h,x,y,he=>by
  have h':(a.1||a.2.w == 1)=true∧CY (b::l)=true:=by
   unfold CY at h ⊢
   rw[List.all_cons,Bool.and_eq_true] at h
   exact h
  simp only[Sh.bN,List.cons.injEq] at he
  exact Prod.ext (QB h'.1 he.1) (QC h'.2 he.2)
def b8:(s:Sh)→Sh.den s→Prop
 | [],_=>True
 | [a],x=>BdS a.2 x
 | a::b::l,x=>BdS a.2 x.1∧b8 (b::l) x.2
theorem ZD:∀ {s:Sh},CY s=true→∀ {x:Sh.den s},(∀ t∈Sh.bN s x,Bd t)→b8 s x
 | [],_,_,_=>trivial
 | [a],h,x,hb=>AP8 (by simpa [CY] using h) (hb _ (by simp[Sh.bN]))
 | a::b::l,h,x,hb=>by
  have h':(a.1||a.2.w == 1)=true∧CY (b::l)=true:=by
   unfold CY at h ⊢
   rw[List.all_cons,Bool.and_eq_true] at h
   exact h
  exact ⟨AP8 h'.1 (hb _ (by simp[Sh.bN])),ZD h'.2 fun t ht=>hb t (by simp only[Sh.bN,List.mem_cons];exact .inr ht)⟩
open Classical in
noncomputable def gS {α:Type} (s:Sh) (sp:Sh.den s→Option α) (args:List T):Option α:=if h:∃ x,args=Sh.bN s x then sp (Classical.choose h) else none
theorem a8 {α:Type} {s:Sh} (hs:CY s=true) {sp:Sh.den s→Option α} {args:List T} (x:Sh.den s) (h:args=Sh.bN s x):gS s sp args=sp x:=by
 unfold gS
 have he:∃ x,args=Sh.bN s x:=⟨x,h⟩
 rw[dif_pos he]
 congr 1
 exact QC hs ((Classical.choose_spec he).symm.trans h)
theorem L5 {α:Type} {s:Sh} {sp:Sh.den s→Option α} {args:List T} {r:α} (h:gS s sp args=some r):∃ x,args=Sh.bN s x∧sp x=some r:=by
 unfold gS at h
 split at h
 ·rename_i he
  exact ⟨_,Classical.choose_spec he,h⟩
 ·cases h
theorem aR {P:Program} {E:Env} {Hs:FuncId→Hint} (hE:aH P E) (hm:P.follows .mixedOrders=true) (hn:eW P=true) (hh:j1 E) (k:Nat) {f:FuncId} {s:Sh} {sp:Sh.den s→Option T} (hex:∃ fn c,P.funcs[f]? = some fn∧fn.body=some c) (hs:CY s=true)
  (h:∀ x r,sp x=some r→b8 s x→bC aY P E Hs k f (Sh.bN s x) (fun y=>y=r)):aK P f (gS s sp) :=
 JC hE hm hn hh k hex fun args r hg hb=>by
  obtain ⟨x,rfl,hx⟩:=L5 hg
  exact h x r hx (ZD hs hb)
theorem AQZ {P:Program} {E:Env} {Hs:FuncId→Hint} (hE:aH P E) (hm:P.follows .mixedOrders=true) (hn:eW P=true) (hh:j1 E) (k:Nat) {f:FuncId} {s:Sh} {sp:Sh.den s→Option T} (hex:∃ fn c,P.funcs[f]? = some fn∧fn.body=some c) (hs:CY s=true)
  (h:∀ x r,sp x=some r→b8 s x→r5 aY P E Hs k f (Sh.bN s x) (fun y=>y=r)):iV P f (gS s sp) :=
 AIK hE hm hn hh k hex fun args r hg hb=>by
  obtain ⟨x,rfl,hx⟩:=L5 hg
  exact h x r hx (ZD hs hb)
open Classical in
noncomputable def gA {α X:Type} (A:X→List T) (sp:X→Option α) (args:List T):Option α:=if h:∃ x,args=A x then sp (Classical.choose h) else none
theorem lQ {α X:Type} {A:X→List T} {sp:X→Option α} (hA:∀ x y,A x=A y→x=y) (x:X):gA A sp (A x)=sp x:=by
 unfold gA
 have he:∃ y,A x=A y:=⟨x,rfl⟩
 rw[dif_pos he]
 congr 1
 exact hA _ _ (Classical.choose_spec he).symm
theorem AQJ {α X:Type} {A:X→List T} {sp:X→Option α} {args:List T} {r:α} (h:gA A sp args=some r):∃ x,args=A x∧sp x=some r:=by
 unfold gA at h
 split at h
 ·rename_i he
  exact ⟨_,Classical.choose_spec he,h⟩
 ·cases h
theorem fO {P:Program} {E:Env} {Hs:FuncId→Hint} (hE:aH P E) (hm:P.follows .mixedOrders=true) (hn:eW P=true) (hh:j1 E) (k:Nat) {f:FuncId} {X:Type} {A:X→List T} {sp:X→Option T} (hex:∃ fn c,P.funcs[f]? = some fn∧fn.body=some c)
  (h:∀ x r,sp x=some r→(∀ t∈A x,Bd t)→bC aY P E Hs k f (A x) (fun y=>y=r)):aK P f (gA A sp) :=
 JC hE hm hn hh k hex fun args r hg hb=>by
  obtain ⟨x,rfl,hx⟩:=AQJ hg
  exact h x r hx hb
theorem D9 {P:Program} {E:Env} {Hs:FuncId→Hint} (hE:aH P E) (hm:P.follows .mixedOrders=true) (hn:eW P=true) (hh:j1 E) (k:Nat) {f:FuncId} {X:Type} {A:X→List T} {sp:X→Option (List (ByteArray×Int))} (hex:∃ fn c,P.funcs[f]? = some fn∧fn.body=some c)
  (h:∀ x r,sp x=some r→(∀ t∈A x,Bd t)→r5 aY P E Hs k f (A x) (fun y=>y = .mp (bI r))):iV P f (rP (gA A sp)) :=
 AIK hE hm hn hh k hex fun args r hg hb=>by
  unfold rP at hg
  simp only[Option.map_eq_some_iff] at hg
  obtain ⟨es,hg,rfl⟩:=hg
  obtain ⟨x,rfl,hx⟩:=AQJ hg
  exact h x es hx hb
theorem eU (A B:Prop):aB true A B=A:=propext ⟨fun h=>h,fun h=>h⟩
theorem fV (A B:Prop):aB false A B=B:=propext ⟨fun h=>h,fun h=>h⟩
theorem EN (b:Bool) (A B:Prop):aB b A B=if b=true then A else B:=by cases b<;>rfl
theorem AI6 (b:Bool) (K:Prop):bP b K=(b=true∧K):=rfl
theorem cI (x:bB) (K:Prop):fE x x K=K:=by simp[fE]
theorem zH (S:Type) (A:(S→Prop)→Prop) (K:S→Prop):rD S A K=A K:=rfl
theorem ZM {r:Sy} {l:List r.den} {i:Nat} {y:r.den}:(List.map r.enc l)[i]? = some (r.enc y)↔l[i]? = some y:=by
 rw[List.getElem?_map]
 cases h:l[i]? with
 | none=>simp
 | some z=>simp only[Option.map_some,Option.some.injEq];exact ⟨Sy.dV r _ _,fun e=>by rw[e]⟩
theorem AV8 (r:Sy) (l:List r.den) (i:Int) (K:r.den→Prop):aO r (List.map r.enc l) i K = ∃ y,0≤i∧l[i.toNat]? = some y∧K y:=by
 simp only[aO,ZM]
theorem aT {r:Sy} {l:List r.den} {k:Nat} (h:k<l.length) (K:r.den→Prop):aO r (List.map r.enc l) (k:Int) K=K l[k]:=by
 rw[AV8]
 apply propext
 constructor
 ·rintro ⟨y,_,h1,h2⟩
  rw[Int.toNat_natCast,List.getElem?_eq_getElem h] at h1
  cases h1;exact h2
 ·exact fun hk=>⟨l[k],by omega,by rw[Int.toNat_natCast,List.getElem?_eq_getElem h],hk⟩
theorem FA {r:Sy} {l:List r.den} {k:Nat} (h:k<l.length) (K:List T→Prop):AI9 (List.map r.enc l) k K=K (r.enc l[k]):=by
 unfold AI9
 have e:(List.map r.enc l)[k]? = some (r.enc l[k]):=ZM.2 (List.getElem?_eq_getElem h)
 apply propext
 constructor
 ·rintro ⟨y,h1,h2⟩
  rw[e] at h1;cases h1;exact h2
 ·exact fun hk=>⟨_,e,hk⟩
theorem p6 {r:Sy} {l:List r.den} {k:Nat} (h:k<l.length) (K:r.den→Prop):BL r (List.map r.enc l) k 0 K=K l[k]:=by
 unfold BL
 have e:(List.map r.enc l)[k]? = some (r.enc l[k]):=ZM.2 (List.getElem?_eq_getElem h)
 have e2:((r.enc l[k]).drop 0).take r.w=r.enc l[k]:=by rw[List.drop_zero,←Sy.eD r l[k],List.take_length]
 apply propext
 constructor
 ·rintro ⟨row,y,h1,_,h2,h3⟩
  rw[e] at h1;cases h1
  rw[e2] at h2
  rw[Sy.dV r _ _ h2];exact h3
 ·exact fun hk=>⟨_,_,e,by rw[Sy.eD];omega,e2,hk⟩
theorem AMB:∀ {s:Sh},CY s=true→∀ {x y:Sh.den s},Sh.enc s x=Sh.enc s y→x=y
 | [],_,_,_,_=>rfl
 | [a],h,x,y,he=>QB (by simpa [CY] using h) he
 | a::b::l,h,x,y,he=>by
  simp only[Sh.enc,T.cR.injEq] at he
  exact QC h he
theorem mF {s:Sh} (hs:CY s=true) (y:Sh.den s) (K:Sh.den s→Prop):aG s (some (Sh.enc s y)) K=K y:=by
 apply propext
 constructor
 ·rintro ⟨z,h1,h2⟩
  rw[AMB hs (Option.some.inj h1)];exact h2
 ·exact fun hk=>⟨y,rfl,hk⟩
theorem mH {α:Type} {p:α→Bool} {l:List α} {k:Nat} (h:k<l.length):(l.drop k).find? p=if p l[k]=true then some l[k] else (l.drop (k+1)).find? p:=by
 rw[List.drop_eq_getElem_cons h,List.find?_cons]
 cases p l[k]<;>rfl
theorem aD {s:Sh} {a:Option T} {y:Sh.den s} {K:Sh.den s→Prop} (h:a=some (Sh.enc s y)) (hk:K y):aG s a K:=⟨y,h,hk⟩
def Sy.pure:Sy→Bool
 | .any=>false
 | .pr a b=>a.pure&&b.pure
 | .li r=>r.pure
 | _=>true
theorem CG:∀ {r:Sy} (x:r.den),r.pure=true→(r.enc x).map (T.canon 0)=r.enc x
 | .int _,_,_=>rfl
 | .bool,_,_=>rfl
 | .str,_,_=>rfl
 | .any,_,h=>by simp[Sy.pure] at h
 | .pr a b,x,h=>by
  simp only[Sy.pure,Bool.and_eq_true] at h
  simp only[Sy.enc,List.map_append,CG x.1 h.1,CG x.2 h.2]
 | .li r,_,_=>rfl
theorem P3 {r:Sy} (h:r.pure=true) (l:List r.den):j5 (List.map r.enc l)=List.map r.enc l:=by
 unfold j5
 rw[List.map_map]
 exact List.map_congr_left fun x _=>CG x h
theorem AFW (a b:List (List T)):j5 (a++b)=j5 a++j5 b:=by simp[j5]
theorem dT {r:Sy} (h:r.pure=true) (l:List r.den) (K:List r.den→Prop):b6 r (List.map r.enc l) K=K l:=by
 apply propext
 constructor
 ·rintro ⟨l',h1,h2⟩
  rw[P3 h] at h1
  rw[map_inj (Sy.dV r) h1];exact h2
 ·exact fun hk=>⟨l,P3 h l,hk⟩
theorem AYP {r:Sy} (K:List r.den→Prop):b6 r [] K=K []:=by
 apply propext
 constructor
 ·rintro ⟨l',h1,h2⟩
  cases l' with
  | nil=>exact h2
  | cons a l=>simp[j5] at h1
 ·exact fun hk=>⟨[],rfl,hk⟩
theorem sF {r:Sy} (h:r.pure=true) (l:List r.den) (row:List T) (y:r.den) (hy:row.map (T.canon 0)=r.enc y) (K:List r.den→Prop):b6 r (List.map r.enc l++[row]) K=K (l++[y]):=by
 have e:j5 (List.map r.enc l++[row])=List.map r.enc (l++[y]):=by
  rw[AFW,P3 h,List.map_append]
  simp[j5,hy]
 apply propext
 constructor
 ·rintro ⟨l',h1,h2⟩
  rw[e] at h1
  rw[map_inj (Sy.dV r) h1];exact h2
 ·exact fun hk=>⟨_,e,hk⟩
theorem aZ {S:Type} {F:(S→Prop)→S→Prop} {s:S} (n:Nat) (J:Nat→S→Prop) (h0:J 0 s) (step:∀ (X:S→Prop) (k:Nat) (s:S),k≤n→J k s→(∀ s',k<n→J (k+1) s'→X s')→F X s):bA S F s:=by
 intro X hX
 have key:∀ m k s,n-k<m→k≤n→J k s→X s:=by
  intro m
  induction m with
  | zero=>intro k s h;omega
  | succ m ih=>intro k s hm hk hj;exact hX s (step X k s hk hj fun s' h1 h2=>ih (k+1) s' (by omega) (by omega) h2)
 exact key (n+1) 0 s (by omega) (by omega) h0
theorem AAX {α:Type} {l:List α} {k:Nat}:decide ((k:Int)<(l.length:Int))=decide (k<l.length):=by simp
end Go.Pv
