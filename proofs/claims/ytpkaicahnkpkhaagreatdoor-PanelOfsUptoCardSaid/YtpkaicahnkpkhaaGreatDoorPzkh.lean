/-
  The symbolic executor, part h: how one reasons about what it says.
-/
import Derived.Test.YtpkaicahnkpkhaaGreatDoorPzkg
import Derived.Test.YtpkaicahnkpkhaaGreatDoorPzwo
set_option linter.unusedSimpArgs false
namespace Go.Pv
open Go Go.RowKit
def BdS:(r:Sy)→r.den→Prop
 | .pr a b,x=>BdS a x.1∧BdS b x.2
 | .li r,l=>List.length (α:=r.den) l≤2 ^ 47∧∀ y,List.Mem y (show List r.den from l)→BdS r y
 | .int _,_=>True
 | .bool,_=>True
 | .str,_=>True
 | .any,_=>True
theorem KJ:∀ {r:Sy} {x:r.den},(∀ t∈r.enc x,Bd t)→BdS r x
 | .int _,_,_=>trivial
 | .bool,_,_=>trivial
 | .str,_,_=>trivial
 | .any,_,_=>trivial
 | .pr a b,x,h=>⟨KJ fun t ht=>h t (by simp only[Sy.enc,List.mem_append];exact .inl ht),KJ fun t ht=>h t (by simp only[Sy.enc,List.mem_append];exact .inr ht)⟩
 | .li r,l,h=>by
  have:=(AYF _ _).1 (h (.sl false (List.map r.enc l)) (by simp[Sy.enc]))
  exact ⟨by have h1:(List.map r.enc (show List r.den from l)).length≤2 ^ 47:=this.1;rw[List.length_map] at h1;exact h1,fun y hy=>KJ fun t ht=>this.2 (r.enc y) (List.mem_map.2 ⟨y,hy,rfl⟩) t ht⟩
theorem AHT {ag:Bool} {r:Sy} {x:r.den} (hw:(ag||r.w == 1)=true) (h:Bd (aB ag r x)):BdS r x:=by
 cases ag with
 | true=>exact KJ ((AV3 _).1 h)
 | false =>
  have hl:(r.enc x).length=1:=by rw[Sy.dL];simpa using hw
  obtain ⟨u,hu⟩:=List.length_eq_one_iff.1 hl
  refine KJ fun t ht=>?_
  rw[hu] at ht
  simp only[aB,hu,PG] at h
  rw[List.mem_singleton.1 ht];exact h
def B2 (s:Sh):Bool:=s.all fun x=>x.1||x.2.w == 1
theorem KW {ag:Bool} {r:Sy} (hw:(ag||r.w == 1)=true) {x y:r.den} (h:aB ag r x=aB ag r y):x=y:=by
 cases ag with
 | true=>simp only[aB,T.agg.injEq] at h;exact Sy.j1 r _ _ h
 | false =>
  have hx:(r.enc x).length=1:=by rw[Sy.dL];simpa using hw
  have hy:(r.enc y).length=1:=by rw[Sy.dL];simpa using hw
  obtain ⟨u,hu⟩:=List.length_eq_one_iff.1 hx
  obtain ⟨v,hv⟩:=List.length_eq_one_iff.1 hy
  simp only[aB,hu,hv,PG] at h
  exact Sy.j1 r _ _ (by rw[hu,hv,h])
theorem KX:∀ {s:Sh},B2 s=true→∀ {x y:Sh.den s},Sh.bI s x=Sh.bI s y→x=y
 | [],_,_,_,_=>rfl
 | [a],h,x,y,he=>by
  simp only[Sh.bI,List.cons.injEq] at he
  exact KW (by simpa [B2] using h) he.1
 | a::b::l,h,x,y,he=>by
  have h':(a.1||a.2.w == 1)=true∧B2 (b::l)=true:=by
   unfold B2 at h ⊢
   rw[List.all_cons,Bool.and_eq_true] at h
   exact h
  simp only[Sh.bI,List.cons.injEq] at he
  exact Prod.ext (KW h'.1 he.1) (KX h'.2 he.2)
def bU:(s:Sh)→Sh.den s→Prop
 | [],_=>True
 | [a],x=>BdS a.2 x
 | a::b::l,x=>BdS a.2 x.1∧bU (b::l) x.2
theorem AHU:∀ {s:Sh},B2 s=true→∀ {x:Sh.den s},(∀ t∈Sh.bI s x,Bd t)→bU s x
 | [],_,_,_=>trivial
 | [a],h,x,hb=>AHT (by simpa [B2] using h) (hb _ (by simp[Sh.bI]))
 | a::b::l,h,x,hb=>by
  have h':(a.1||a.2.w == 1)=true∧B2 (b::l)=true:=by
   unfold B2 at h ⊢
   rw[List.all_cons,Bool.and_eq_true] at h
   exact h
  exact ⟨AHT h'.1 (hb _ (by simp[Sh.bI])),AHU h'.2 fun t ht=>hb t (by simp only[Sh.bI,List.mem_cons];exact .inr ht)⟩
open Classical in
noncomputable def gS {α:Type} (s:Sh) (sp:Sh.den s→Option α) (args:List T):Option α:=if h:∃ x,args=Sh.bI s x then sp (Classical.choose h) else none
theorem aT {α:Type} {s:Sh} (hs:B2 s=true) {sp:Sh.den s→Option α} {args:List T} (x:Sh.den s) (h:args=Sh.bI s x):gS s sp args=sp x:=by
 unfold gS
 have he:∃ x,args=Sh.bI s x:=⟨x,h⟩
 rw[dif_pos he]
 congr 1
 exact KX hs ((Classical.choose_spec he).symm.trans h)
theorem G3 {α:Type} {s:Sh} {sp:Sh.den s→Option α} {args:List T} {r:α} (h:gS s sp args=some r):∃ x,args=Sh.bI s x∧sp x=some r:=by
 unfold gS at h
 split at h
 ·rename_i he
  exact ⟨_,Classical.choose_spec he,h⟩
 ·cases h
theorem aN {P:Program} {E:Env} {Hs:FuncId→Hint} (hE:aF P E) (hm:P.follows .mixedOrders=true) (hn:eK P=true) (hh:j4 E) (k:Nat) {f:FuncId} {s:Sh} {sp:Sh.den s→Option T} (hex:∃ fn c,P.funcs[f]? = some fn∧fn.body=some c) (hs:B2 s=true)
  (h:∀ x r,sp x=some r→bU s x→bD aX P E Hs k f (Sh.bI s x) (fun y=>y=r)):aJ P f (gS s sp) :=
 EH hE hm hn hh k hex fun args r hg hb=>by
  obtain ⟨x,rfl,hx⟩:=G3 hg
  exact h x r hx (AHU hs hb)
open Classical in
noncomputable def gA {α X:Type} (A:X→List T) (sp:X→Option α) (args:List T):Option α:=if h:∃ x,args=A x then sp (Classical.choose h) else none
theorem AY0 {α X:Type} {A:X→List T} {sp:X→Option α} (hA:∀ x y,A x=A y→x=y) (x:X):gA A sp (A x)=sp x:=by
 unfold gA
 have he:∃ y,A x=A y:=⟨x,rfl⟩
 rw[dif_pos he]
 congr 1
 exact hA _ _ (Classical.choose_spec he).symm
theorem ATT {α X:Type} {A:X→List T} {sp:X→Option α} {args:List T} {r:α} (h:gA A sp args=some r):∃ x,args=A x∧sp x=some r:=by
 unfold gA at h
 split at h
 ·rename_i he
  exact ⟨_,Classical.choose_spec he,h⟩
 ·cases h
theorem ART {P:Program} {E:Env} {Hs:FuncId→Hint} (hE:aF P E) (hm:P.follows .mixedOrders=true) (hn:eK P=true) (hh:j4 E) (k:Nat) {f:FuncId} {X:Type} {A:X→List T} {sp:X→Option T} (hex:∃ fn c,P.funcs[f]? = some fn∧fn.body=some c)
  (h:∀ x r,sp x=some r→(∀ t∈A x,Bd t)→bD aX P E Hs k f (A x) (fun y=>y=r)):aJ P f (gA A sp) :=
 EH hE hm hn hh k hex fun args r hg hb=>by
  obtain ⟨x,rfl,hx⟩:=ATT hg
  exact h x r hx hb
theorem cH (A B:Prop):aC true A B=A:=propext ⟨fun h=>h,fun h=>h⟩
theorem cO (A B:Prop):aC false A B=B:=propext ⟨fun h=>h,fun h=>h⟩
theorem pV (b:Bool) (A B:Prop):aC b A B=if b=true then A else B:=by cases b<;>rfl
theorem ABE (b:Bool) (K:Prop):bS b K=(b=true∧K):=rfl
theorem bY (x:aY) (K:Prop):dY x x K=K:=by simp[dY]
theorem pX (S:Type) (A:(S→Prop)→Prop) (K:S→Prop):oQ S A K=A K:=rfl
theorem SL {r:Sy} {l:List r.den} {i:Nat} {y:r.den}:(List.map r.enc l)[i]? = some (r.enc y)↔l[i]? = some y:=by
 rw[List.getElem?_map]
 cases h:l[i]? with
 | none=>simp
 | some z=>simp only[Option.map_some,Option.some.injEq];exact ⟨Sy.j1 r _ _,fun e=>by rw[e]⟩
theorem ANB (r:Sy) (l:List r.den) (i:Int) (K:r.den→Prop):aZ r (List.map r.enc l) i K = ∃ y,0≤i∧l[i.toNat]? = some y∧K y:=by
 simp only[aZ,SL]
theorem a7 {r:Sy} {l:List r.den} {k:Nat} (h:k<l.length) (K:r.den→Prop):aZ r (List.map r.enc l) (k:Int) K=K l[k]:=by
 rw[ANB]
 apply propext
 constructor
 ·rintro ⟨y,_,h1,h2⟩
  rw[Int.toNat_natCast,List.getElem?_eq_getElem h] at h1
  cases h1;exact h2
 ·exact fun hk=>⟨l[k],by omega,by rw[Int.toNat_natCast,List.getElem?_eq_getElem h],hk⟩
theorem AU7 {r:Sy} {l:List r.den} {k:Nat} (h:k<l.length) (K:List T→Prop):AU6 (List.map r.enc l) k K=K (r.enc l[k]):=by
 unfold AU6
 have e:(List.map r.enc l)[k]? = some (r.enc l[k]):=SL.2 (List.getElem?_eq_getElem h)
 apply propext
 constructor
 ·rintro ⟨y,h1,h2⟩
  rw[e] at h1;cases h1;exact h2
 ·exact fun hk=>⟨_,e,hk⟩
theorem p8 {r:Sy} {l:List r.den} {k:Nat} (h:k<l.length) (K:r.den→Prop):oU r (List.map r.enc l) k 0 K=K l[k]:=by
 unfold oU
 have e:(List.map r.enc l)[k]? = some (r.enc l[k]):=SL.2 (List.getElem?_eq_getElem h)
 have e2:((r.enc l[k]).drop 0).take r.w=r.enc l[k]:=by rw[List.drop_zero,←Sy.dL r l[k],List.take_length]
 apply propext
 constructor
 ·rintro ⟨row,y,h1,_,h2,h3⟩
  rw[e] at h1;cases h1
  rw[e2] at h2
  rw[Sy.j1 r _ _ h2];exact h3
 ·exact fun hk=>⟨_,_,e,by rw[Sy.dL];omega,e2,hk⟩
theorem AEM:∀ {s:Sh},B2 s=true→∀ {x y:Sh.den s},Sh.enc s x=Sh.enc s y→x=y
 | [],_,_,_,_=>rfl
 | [a],h,x,y,he=>KW (by simpa [B2] using h) he
 | a::b::l,h,x,y,he=>by
  simp only[Sh.enc,T.bX.injEq] at he
  exact KX h he
theorem fJ {s:Sh} (hs:B2 s=true) (y:Sh.den s) (K:Sh.den s→Prop):aH s (some (Sh.enc s y)) K=K y:=by
 apply propext
 constructor
 ·rintro ⟨z,h1,h2⟩
  rw[AEM hs (Option.some.inj h1)];exact h2
 ·exact fun hk=>⟨y,rfl,hk⟩
theorem ALA {r:Sy} {a:Option (List (List T))} {l:List r.den} (h:a=some (List.map r.enc l)) (K:List r.den→Prop) (hk:K l):AFA r a K:=⟨l,h,hk⟩
theorem AR6 {r:Sy} {l:List r.den} {k:Nat} (h:k<l.length):(List.map r.enc l).set k (r.enc l[k])=List.map r.enc l:=by
 have:(List.map r.enc l)[k]'(by simpa using h)=r.enc l[k]:=by simp
 rw[←this,List.set_getElem_self]
theorem gG {α:Type} {p:α→Bool} {l:List α} {k:Nat} (h:k<l.length):(l.drop k).find? p=if p l[k]=true then some l[k] else (l.drop (k+1)).find? p:=by
 rw[List.drop_eq_getElem_cons h,List.find?_cons]
 cases p l[k]<;>rfl
theorem aD {s:Sh} {a:Option T} {y:Sh.den s} {K:Sh.den s→Prop} (h:a=some (Sh.enc s y)) (hk:K y):aH s a K:=⟨y,h,hk⟩
def Sy.pure:Sy→Bool
 | .any=>false
 | .pr a b=>a.pure&&b.pure
 | .li r=>r.pure
 | _=>true
theorem wY:∀ {r:Sy} (x:r.den),r.pure=true→(r.enc x).map (T.canon 0)=r.enc x
 | .int _,_,_=>rfl
 | .bool,_,_=>rfl
 | .str,_,_=>rfl
 | .any,_,h=>by simp[Sy.pure] at h
 | .pr a b,x,h=>by
  simp only[Sy.pure,Bool.and_eq_true] at h
  simp only[Sy.enc,List.map_append,wY x.1 h.1,wY x.2 h.2]
 | .li r,_,_=>rfl
theorem KP {r:Sy} (h:r.pure=true) (l:List r.den):iN (List.map r.enc l)=List.map r.enc l:=by
 unfold iN
 rw[List.map_map]
 exact List.map_congr_left fun x _=>wY x h
theorem YF (a b:List (List T)):iN (a++b)=iN a++iN b:=by simp[iN]
theorem iO {r:Sy} (h:r.pure=true) (l:List r.den) (K:List r.den→Prop):bA r (List.map r.enc l) K=K l:=by
 apply propext
 constructor
 ·rintro ⟨l',h1,h2⟩
  rw[KP h] at h1
  rw[map_inj (Sy.j1 r) h1];exact h2
 ·exact fun hk=>⟨l,KP h l,hk⟩
theorem APA {r:Sy} (K:List r.den→Prop):bA r [] K=K []:=by
 apply propext
 constructor
 ·rintro ⟨l',h1,h2⟩
  cases l' with
  | nil=>exact h2
  | cons a l=>simp[iN] at h1
 ·exact fun hk=>⟨[],rfl,hk⟩
theorem OX {r:Sy} (h:r.pure=true) (l:List r.den) (row:List T) (y:r.den) (hy:row.map (T.canon 0)=r.enc y) (K:List r.den→Prop):bA r (List.map r.enc l++[row]) K=K (l++[y]):=by
 have e:iN (List.map r.enc l++[row])=List.map r.enc (l++[y]):=by
  rw[YF,KP h,List.map_append]
  simp[iN,hy]
 apply propext
 constructor
 ·rintro ⟨l',h1,h2⟩
  rw[e] at h1
  rw[map_inj (Sy.j1 r) h1];exact h2
 ·exact fun hk=>⟨_,e,hk⟩
theorem ALR {S:Type} {F:(S→Prop)→S→Prop} {s:S} (I:S→Prop) (μ:S→Nat) (h0:I s) (step:∀ (X:S→Prop) (s:S),I s→(∀ s',I s'→μ s'<μ s→X s')→F X s):bE S F s:=by
 intro X hX
 have key:∀ n s,μ s<n→I s→X s:=by
  intro n
  induction n with
  | zero=>intro s h;omega
  | succ n ih=>intro s hn hi;exact hX s (step X s hi fun s' h1 h2=>ih s' (by omega) h1)
 exact key (μ s+1) s (by omega) h0
theorem aR {S:Type} {F:(S→Prop)→S→Prop} {s:S} (n:Nat) (J:Nat→S→Prop) (h0:J 0 s) (step:∀ (X:S→Prop) (k:Nat) (s:S),k≤n→J k s→(∀ s',k<n→J (k+1) s'→X s')→F X s):bE S F s:=by
 intro X hX
 have key:∀ m k s,n-k<m→k≤n→J k s→X s:=by
  intro m
  induction m with
  | zero=>intro k s h;omega
  | succ m ih=>intro k s hm hk hj;exact hX s (step X k s hk hj fun s' h1 h2=>ih (k+1) s' (by omega) (by omega) h2)
 exact key (n+1) 0 s (by omega) (by omega) h0
theorem o9 {α:Type} {l:List α} {k:Nat}:decide ((k:Int)<(l.length:Int))=decide (k<l.length):=by simp
end Go.Pv
