/-
  The symbolic executor, part h: how one reasons about what it says.
-/
import Derived.Test.YtcdomkejkfcjlaaGreatDoorPrkg
import Derived.Test.YtcdomkejkfcjlaaGreatDoorPrwo
set_option linter.unusedSimpArgs false
namespace Go.Pv
open Go Go.RowKit
def BdS:(r:Sy)→r.den→Prop
 | .pr a b,x=>BdS a x.1∧BdS b x.2
 | .li r,l=>List.length (α:=r.den) l≤2 ^ 47∧∀ y,List.Mem y (show List r.den from l)→BdS r y
 | .int _,_=>True
 | .bool,_=>True
 | .str,_=>True
 | .any,_=>True
theorem PL:∀ {r:Sy} {x:r.den},(∀ t∈r.enc x,Bd t)→BdS r x
 | .int _,_,_=>trivial
 | .bool,_,_=>trivial
 | .str,_,_=>trivial
 | .any,_,_=>trivial
 | .pr a b,x,h=>⟨PL fun t ht=>h t (by simp only[Sy.enc,List.mem_append];exact .inl ht),PL fun t ht=>h t (by simp only[Sy.enc,List.mem_append];exact .inr ht)⟩
 | .li r,l,h=>by
  have:=(A7H _ _).1 (h (.sl false (List.map r.enc l)) (by simp[Sy.enc]))
  exact ⟨by have h1:(List.map r.enc (show List r.den from l)).length≤2 ^ 47:=this.1;rw[List.length_map] at h1;exact h1,fun y hy=>PL fun t ht=>this.2 (r.enc y) (List.mem_map.2 ⟨y,hy,rfl⟩) t ht⟩
theorem APB {ag:Bool} {r:Sy} {x:r.den} (hw:(ag||r.w == 1)=true) (h:Bd (aC ag r x)):BdS r x:=by
 cases ag with
 | true=>exact PL ((A4O _).1 h)
 | false =>
  have hl:(r.enc x).length=1:=by rw[Sy.eG];simpa using hw
  obtain ⟨u,hu⟩:=List.length_eq_one_iff.1 hl
  refine PL fun t ht=>?_
  rw[hu] at ht
  simp only[aC,hu,hdT] at h
  rw[List.mem_singleton.1 ht];exact h
def CM (s:Sh):Bool:=s.all fun x=>x.1||x.2.w == 1
theorem P0 {ag:Bool} {r:Sy} (hw:(ag||r.w == 1)=true) {x y:r.den} (h:aC ag r x=aC ag r y):x=y:=by
 cases ag with
 | true=>simp only[aC,T.agg.injEq] at h;exact Sy.dO r _ _ h
 | false =>
  have hx:(r.enc x).length=1:=by rw[Sy.eG];simpa using hw
  have hy:(r.enc y).length=1:=by rw[Sy.eG];simpa using hw
  obtain ⟨u,hu⟩:=List.length_eq_one_iff.1 hx
  obtain ⟨v,hv⟩:=List.length_eq_one_iff.1 hy
  simp only[aC,hu,hv,hdT] at h
  exact Sy.dO r _ _ (by rw[hu,hv,h])
theorem P1:∀ {s:Sh},CM s=true→∀ {x y:Sh.den s},Sh.bK s x=Sh.bK s y→x=y
 | [],_,_,_,_=>rfl
 | [a],h,x,y,he=>by
  simp only[Sh.bK,List.cons.injEq] at he
  exact P0 (by simpa [CM] using h) he.1
 | a::b::l,h,x,y,he=>by
  have h':(a.1||a.2.w == 1)=true∧CM (b::l)=true:=by
   unfold CM at h ⊢
   rw[List.all_cons,Bool.and_eq_true] at h
   exact h
  simp only[Sh.bK,List.cons.injEq] at he
  exact Prod.ext (P0 h'.1 he.1) (P1 h'.2 he.2)
def bY:(s:Sh)→Sh.den s→Prop
 | [],_=>True
 | [a],x=>BdS a.2 x
 | a::b::l,x=>BdS a.2 x.1∧bY (b::l) x.2
theorem YU:∀ {s:Sh},CM s=true→∀ {x:Sh.den s},(∀ t∈Sh.bK s x,Bd t)→bY s x
 | [],_,_,_=>trivial
 | [a],h,x,hb=>APB (by simpa [CM] using h) (hb _ (by simp[Sh.bK]))
 | a::b::l,h,x,hb=>by
  have h':(a.1||a.2.w == 1)=true∧CM (b::l)=true:=by
   unfold CM at h ⊢
   rw[List.all_cons,Bool.and_eq_true] at h
   exact h
  exact ⟨APB h'.1 (hb _ (by simp[Sh.bK])),YU h'.2 fun t ht=>hb t (by simp only[Sh.bK,List.mem_cons];exact .inr ht)⟩
open Classical in
noncomputable def gS {α:Type} (s:Sh) (sp:Sh.den s→Option α) (args:List T):Option α:=if h:∃ x,args=Sh.bK s x then sp (Classical.choose h) else none
theorem a6 {α:Type} {s:Sh} (hs:CM s=true) {sp:Sh.den s→Option α} {args:List T} (x:Sh.den s) (h:args=Sh.bK s x):gS s sp args=sp x:=by
 unfold gS
 have he:∃ x,args=Sh.bK s x:=⟨x,h⟩
 rw[dif_pos he]
 congr 1
 exact P1 hs ((Classical.choose_spec he).symm.trans h)
theorem LQ {α:Type} {s:Sh} {sp:Sh.den s→Option α} {args:List T} {r:α} (h:gS s sp args=some r):∃ x,args=Sh.bK s x∧sp x=some r:=by
 unfold gS at h
 split at h
 ·rename_i he
  exact ⟨_,Classical.choose_spec he,h⟩
 ·cases h
theorem aP {P:Program} {E:Env} {Hs:FuncId→Hint} (hE:aE P E) (hm:P.follows .mixedOrders=true) (hn:eR P=true) (hh:jO E) (k:Nat) {f:FuncId} {s:Sh} {sp:Sh.den s→Option T} (hex:∃ fn c,P.funcs[f]? = some fn∧fn.body=some c) (hs:CM s=true)
  (h:∀ x r,sp x=some r→bY s x→bA aW P E Hs k f (Sh.bK s x) (fun y=>y=r)):aK P f (gS s sp) :=
 I0 hE hm hn hh k hex fun args r hg hb=>by
  obtain ⟨x,rfl,hx⟩:=LQ hg
  exact h x r hx (YU hs hb)
theorem AP2 {P:Program} {E:Env} {Hs:FuncId→Hint} (hE:aE P E) (hm:P.follows .mixedOrders=true) (hn:eR P=true) (hh:jO E) (k:Nat) {f:FuncId} {s:Sh} {sp:Sh.den s→Option T} (hex:∃ fn c,P.funcs[f]? = some fn∧fn.body=some c) (hs:CM s=true)
  (h:∀ x r,sp x=some r→bY s x→sX aW P E Hs k f (Sh.bK s x) (fun y=>y=r)):iM P f (gS s sp) :=
 AHU hE hm hn hh k hex fun args r hg hb=>by
  obtain ⟨x,rfl,hx⟩:=LQ hg
  exact h x r hx (YU hs hb)
open Classical in
noncomputable def gA {α X:Type} (A:X→List T) (sp:X→Option α) (args:List T):Option α:=if h:∃ x,args=A x then sp (Classical.choose h) else none
theorem lA {α X:Type} {A:X→List T} {sp:X→Option α} (hA:∀ x y,A x=A y→x=y) (x:X):gA A sp (A x)=sp x:=by
 unfold gA
 have he:∃ y,A x=A y:=⟨x,rfl⟩
 rw[dif_pos he]
 congr 1
 exact hA _ _ (Classical.choose_spec he).symm
theorem APM {α X:Type} {A:X→List T} {sp:X→Option α} {args:List T} {r:α} (h:gA A sp args=some r):∃ x,args=A x∧sp x=some r:=by
 unfold gA at h
 split at h
 ·rename_i he
  exact ⟨_,Classical.choose_spec he,h⟩
 ·cases h
theorem fK {P:Program} {E:Env} {Hs:FuncId→Hint} (hE:aE P E) (hm:P.follows .mixedOrders=true) (hn:eR P=true) (hh:jO E) (k:Nat) {f:FuncId} {X:Type} {A:X→List T} {sp:X→Option T} (hex:∃ fn c,P.funcs[f]? = some fn∧fn.body=some c)
  (h:∀ x r,sp x=some r→(∀ t∈A x,Bd t)→bA aW P E Hs k f (A x) (fun y=>y=r)):aK P f (gA A sp) :=
 I0 hE hm hn hh k hex fun args r hg hb=>by
  obtain ⟨x,rfl,hx⟩:=APM hg
  exact h x r hx hb
theorem DX {P:Program} {E:Env} {Hs:FuncId→Hint} (hE:aE P E) (hm:P.follows .mixedOrders=true) (hn:eR P=true) (hh:jO E) (k:Nat) {f:FuncId} {X:Type} {A:X→List T} {sp:X→Option (List (ByteArray×Int))} (hex:∃ fn c,P.funcs[f]? = some fn∧fn.body=some c)
  (h:∀ x r,sp x=some r→(∀ t∈A x,Bd t)→sX aW P E Hs k f (A x) (fun y=>y = .mp (bE r))):iM P f (sC (gA A sp)) :=
 AHU hE hm hn hh k hex fun args r hg hb=>by
  unfold sC at hg
  simp only[Option.map_eq_some_iff] at hg
  obtain ⟨es,hg,rfl⟩:=hg
  obtain ⟨x,rfl,hx⟩:=APM hg
  exact h x es hx hb
theorem eO (A B:Prop):aB true A B=A:=propext ⟨fun h=>h,fun h=>h⟩
theorem fS (A B:Prop):aB false A B=B:=propext ⟨fun h=>h,fun h=>h⟩
theorem EB (b:Bool) (A B:Prop):aB b A B=if b=true then A else B:=by cases b<;>rfl
theorem AII (b:Bool) (K:Prop):bV b K=(b=true∧K):=rfl
theorem cG (x:a8) (K:Prop):fB x x K=K:=by simp[fB]
theorem yZ (S:Type) (A:(S→Prop)→Prop) (K:S→Prop):rU S A K=A K:=rfl
theorem Y3 {r:Sy} {l:List r.den} {i:Nat} {y:r.den}:(List.map r.enc l)[i]? = some (r.enc y)↔l[i]? = some y:=by
 rw[List.getElem?_map]
 cases h:l[i]? with
 | none=>simp
 | some z=>simp only[Option.map_some,Option.some.injEq];exact ⟨Sy.dO r _ _,fun e=>by rw[e]⟩
theorem AU0 (r:Sy) (l:List r.den) (i:Int) (K:r.den→Prop):aO r (List.map r.enc l) i K = ∃ y,0≤i∧l[i.toNat]? = some y∧K y:=by
 simp only[aO,Y3]
theorem aS {r:Sy} {l:List r.den} {k:Nat} (h:k<l.length) (K:r.den→Prop):aO r (List.map r.enc l) (k:Int) K=K l[k]:=by
 rw[AU0]
 apply propext
 constructor
 ·rintro ⟨y,_,h1,h2⟩
  rw[Int.toNat_natCast,List.getElem?_eq_getElem h] at h1
  cases h1;exact h2
 ·exact fun hk=>⟨l[k],by omega,by rw[Int.toNat_natCast,List.getElem?_eq_getElem h],hk⟩
theorem EY {r:Sy} {l:List r.den} {k:Nat} (h:k<l.length) (K:List T→Prop):AIL (List.map r.enc l) k K=K (r.enc l[k]):=by
 unfold AIL
 have e:(List.map r.enc l)[k]? = some (r.enc l[k]):=Y3.2 (List.getElem?_eq_getElem h)
 apply propext
 constructor
 ·rintro ⟨y,h1,h2⟩
  rw[e] at h1;cases h1;exact h2
 ·exact fun hk=>⟨_,e,hk⟩
theorem pU {r:Sy} {l:List r.den} {k:Nat} (h:k<l.length) (K:r.den→Prop):BA r (List.map r.enc l) k 0 K=K l[k]:=by
 unfold BA
 have e:(List.map r.enc l)[k]? = some (r.enc l[k]):=Y3.2 (List.getElem?_eq_getElem h)
 have e2:((r.enc l[k]).drop 0).take r.w=r.enc l[k]:=by rw[List.drop_zero,←Sy.eG r l[k],List.take_length]
 apply propext
 constructor
 ·rintro ⟨row,y,h1,_,h2,h3⟩
  rw[e] at h1;cases h1
  rw[e2] at h2
  rw[Sy.dO r _ _ h2];exact h3
 ·exact fun hk=>⟨_,_,e,by rw[Sy.eG];omega,e2,hk⟩
theorem ALL:∀ {s:Sh},CM s=true→∀ {x y:Sh.den s},Sh.enc s x=Sh.enc s y→x=y
 | [],_,_,_,_=>rfl
 | [a],h,x,y,he=>P0 (by simpa [CM] using h) he
 | a::b::l,h,x,y,he=>by
  simp only[Sh.enc,T.cQ.injEq] at he
  exact P1 h he
theorem lV {s:Sh} (hs:CM s=true) (y:Sh.den s) (K:Sh.den s→Prop):aG s (some (Sh.enc s y)) K=K y:=by
 apply propext
 constructor
 ·rintro ⟨z,h1,h2⟩
  rw[ALL hs (Option.some.inj h1)];exact h2
 ·exact fun hk=>⟨y,rfl,hk⟩
theorem lW {α:Type} {p:α→Bool} {l:List α} {k:Nat} (h:k<l.length):(l.drop k).find? p=if p l[k]=true then some l[k] else (l.drop (k+1)).find? p:=by
 rw[List.drop_eq_getElem_cons h,List.find?_cons]
 cases p l[k]<;>rfl
theorem aD {s:Sh} {a:Option T} {y:Sh.den s} {K:Sh.den s→Prop} (h:a=some (Sh.enc s y)) (hk:K y):aG s a K:=⟨y,h,hk⟩
def Sy.pure:Sy→Bool
 | .any=>false
 | .pr a b=>a.pure&&b.pure
 | .li r=>r.pure
 | _=>true
theorem B4:∀ {r:Sy} (x:r.den),r.pure=true→(r.enc x).map (T.canon 0)=r.enc x
 | .int _,_,_=>rfl
 | .bool,_,_=>rfl
 | .str,_,_=>rfl
 | .any,_,h=>by simp[Sy.pure] at h
 | .pr a b,x,h=>by
  simp only[Sy.pure,Bool.and_eq_true] at h
  simp only[Sy.enc,List.map_append,B4 x.1 h.1,B4 x.2 h.2]
 | .li r,_,_=>rfl
theorem PR {r:Sy} (h:r.pure=true) (l:List r.den):jR (List.map r.enc l)=List.map r.enc l:=by
 unfold jR
 rw[List.map_map]
 exact List.map_congr_left fun x _=>B4 x h
theorem AFA (a b:List (List T)):jR (a++b)=jR a++jR b:=by simp[jR]
theorem dM {r:Sy} (h:r.pure=true) (l:List r.den) (K:List r.den→Prop):bX r (List.map r.enc l) K=K l:=by
 apply propext
 constructor
 ·rintro ⟨l',h1,h2⟩
  rw[PR h] at h1
  rw[map_inj (Sy.dO r) h1];exact h2
 ·exact fun hk=>⟨l,PR h l,hk⟩
theorem AXD {r:Sy} (K:List r.den→Prop):bX r [] K=K []:=by
 apply propext
 constructor
 ·rintro ⟨l',h1,h2⟩
  cases l' with
  | nil=>exact h2
  | cons a l=>simp[jR] at h1
 ·exact fun hk=>⟨[],rfl,hk⟩
theorem tI {r:Sy} (h:r.pure=true) (l:List r.den) (row:List T) (y:r.den) (hy:row.map (T.canon 0)=r.enc y) (K:List r.den→Prop):bX r (List.map r.enc l++[row]) K=K (l++[y]):=by
 have e:jR (List.map r.enc l++[row])=List.map r.enc (l++[y]):=by
  rw[AFA,PR h,List.map_append]
  simp[jR,hy]
 apply propext
 constructor
 ·rintro ⟨l',h1,h2⟩
  rw[e] at h1
  rw[map_inj (Sy.dO r) h1];exact h2
 ·exact fun hk=>⟨_,e,hk⟩
theorem aY {S:Type} {F:(S→Prop)→S→Prop} {s:S} (n:Nat) (J:Nat→S→Prop) (h0:J 0 s) (step:∀ (X:S→Prop) (k:Nat) (s:S),k≤n→J k s→(∀ s',k<n→J (k+1) s'→X s')→F X s):a7 S F s:=by
 intro X hX
 have key:∀ m k s,n-k<m→k≤n→J k s→X s:=by
  intro m
  induction m with
  | zero=>intro k s h;omega
  | succ m ih=>intro k s hm hk hj;exact hX s (step X k s hk hj fun s' h1 h2=>ih (k+1) s' (by omega) (by omega) h2)
 exact key (n+1) 0 s (by omega) (by omega) h0
theorem AAE {α:Type} {l:List α} {k:Nat}:decide ((k:Int)<(l.length:Int))=decide (k<l.length):=by simp
end Go.Pv
