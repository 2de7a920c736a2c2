/-
  The symbolic executor, part h: how one reasons about what it says.
-/
import Derived.Test.YtlongjgklndggaaGreatDoorVakg
import Derived.Test.YtlongjgklndggaaGreatDoorVawo
set_option linter.defProp false
set_option linter.unusedSimpArgs false
namespace Go.Pv
open Go Go.RowKit
def TQ:(r:Sy)→r.den→Prop
 | .pr a b,x=>TQ a x.1∧TQ b x.2
 | .li r,l=>List.length (α:=r.den) l≤2 ^ 47∧∀ y,List.Mem y (show List r.den from l)→TQ r y
 | .int _,_=>True
 | .bool,_=>True
 | .str,_=>True
 | .any,_=>True
theorem uE:∀ {r:Sy} {x:r.den},(∀ t∈r.enc x,Bd t)→TQ r x
 | .int _,_,_=>trivial
 | .bool,_,_=>trivial
 | .str,_,_=>trivial
 | .any,_,_=>trivial
 | .pr a b,x,h=>⟨uE fun t ht=>h t (by simp only[Sy.enc,List.mem_append];exact .inl ht),uE fun t ht=>h t (by simp only[Sy.enc,List.mem_append];exact .inr ht)⟩
 | .li r,l,h=>by
  have:=(V1 _ _).1 (h (.sl false (List.map r.enc l)) (by simp[Sy.enc]))
  exact ⟨by have h1:(List.map r.enc (show List r.den from l)).length≤2 ^ 47:=this.1;rw[List.length_map] at h1;exact h1,fun y hy=>uE fun t ht=>this.2 (r.enc y) (List.mem_map.2 ⟨y,hy,rfl⟩) t ht⟩
theorem H3 {ag:Bool} {r:Sy} {x:r.den} (hw:(ag||r.w == 1)=true) (h:Bd (a8 ag r x)):TQ r x:=by
 cases ag with
 | true=>exact uE ((L2 _).1 h)
 | false =>
  have hl:(r.enc x).length=1:=by rw[Sy.bR];simpa using hw
  obtain ⟨u,hu⟩:=List.length_eq_one_iff.1 hl
  refine uE fun t ht=>?_
  rw[hu] at ht
  simp only[a8,hu,VS] at h
  rw[List.mem_singleton.1 ht];exact h
def jZ (s:Sh):Bool:=s.all fun x=>x.1||x.2.w == 1
theorem uS {ag:Bool} {r:Sy} (hw:(ag||r.w == 1)=true) {x y:r.den} (h:a8 ag r x=a8 ag r y):x=y:=by
 cases ag with
 | true=>simp only[a8,T.agg.injEq] at h;exact Sy.eJ r _ _ h
 | false =>
  have hx:(r.enc x).length=1:=by rw[Sy.bR];simpa using hw
  have hy:(r.enc y).length=1:=by rw[Sy.bR];simpa using hw
  obtain ⟨u,hu⟩:=List.length_eq_one_iff.1 hx
  obtain ⟨v,hv⟩:=List.length_eq_one_iff.1 hy
  simp only[a8,hu,hv,VS] at h
  exact Sy.eJ r _ _ (by rw[hu,hv,h])
theorem uT:∀ {s:Sh},jZ s=true→∀ {x y:Sh.den s},Sh.dS s x=Sh.dS s y→x=y
 | [],_,_,_,_=>rfl
 | [a],h,x,y,he=>by
  simp only[Sh.dS,List.cons.injEq] at he
  exact uS (by simpa [jZ] using h) he.1
 | a::b::l,h,x,y,he=>by
  have h':(a.1||a.2.w == 1)=true∧jZ (b::l)=true:=by
   unfold jZ at h ⊢
   rw[List.all_cons,Bool.and_eq_true] at h
   exact h
  simp only[Sh.dS,List.cons.injEq] at he
  exact Prod.ext (uS h'.1 he.1) (uT h'.2 he.2)
def dO:(s:Sh)→Sh.den s→Prop
 | [],_=>True
 | [a],x=>TQ a.2 x
 | a::b::l,x=>TQ a.2 x.1∧dO (b::l) x.2
theorem AA:∀ {s:Sh},jZ s=true→∀ {x:Sh.den s},(∀ t∈Sh.dS s x,Bd t)→dO s x
 | [],_,_,_=>trivial
 | [a],h,x,hb=>H3 (by simpa [jZ] using h) (hb _ (by simp[Sh.dS]))
 | a::b::l,h,x,hb=>by
  have h':(a.1||a.2.w == 1)=true∧jZ (b::l)=true:=by
   unfold jZ at h ⊢
   rw[List.all_cons,Bool.and_eq_true] at h
   exact h
  exact ⟨H3 h'.1 (hb _ (by simp[Sh.dS])),AA h'.2 fun t ht=>hb t (by simp only[Sh.dS,List.mem_cons];exact .inr ht)⟩
open Classical in
noncomputable def gS {α:Type} (s:Sh) (sp:Sh.den s→Option α) (args:List T):Option α:=if h:∃ x,args=Sh.dS s x then sp (Classical.choose h) else none
theorem bT {α:Type} {s:Sh} (hs:jZ s=true) {sp:Sh.den s→Option α} {args:List T} (x:Sh.den s) (h:args=Sh.dS s x):gS s sp args=sp x:=by
 unfold gS
 have he:∃ x,args=Sh.dS s x:=⟨x,h⟩
 rw[dif_pos he]
 congr 1
 exact uT hs ((Classical.choose_spec he).symm.trans h)
theorem AN {α:Type} {s:Sh} {sp:Sh.den s→Option α} {args:List T} {r:α} (h:gS s sp args=some r):∃ x,args=Sh.dS s x∧sp x=some r:=by
 unfold gS at h
 split at h
 ·rename_i he
  exact ⟨_,Classical.choose_spec he,h⟩
 ·cases h
theorem pH {P:Program} {E:Env} {Hs:FuncId→Hint} (hE:aM P E) (hm:P.follows .mixedOrders=true) (hn:a7 P=true) (hh:cS E) (k:Nat) {f:FuncId} {s:Sh} {sp:Sh.den s→Option T} (hex:∃ fn c,P.funcs[f]? = some fn∧fn.body=some c) (hs:jZ s=true)
  (h:∀ x r,sp x=some r→dO s x→wX bP P E Hs k f (Sh.dS s x) (fun y=>y=r)):aU P f (gS s sp) :=
 LN hE hm hn hh k hex fun args r hg hb=>by
  obtain ⟨x,rfl,hx⟩:=AN hg
  exact h x r hx (AA hs hb)
def S9:List (Nat×LH)→Nat→LH
 | [],_=>.none
 | (a,h)::l,r=>match r == a with
  | true=>h
  | false=>S9 l r
def fM (f:FuncId) (l:List (Nat×LH)) (n:FuncId→Hint):FuncId→Hint:=fun g=>match g == f with
 | true=>⟨S9 l,fun _ _=>none,fun _=>none⟩
 | false=>n g
abbrev V7 (P:Program) (f:FuncId) (g:List T→Option T) {A1:Type} (sp:A1→Option T) (B:A1→Prop) (F:A1→(T→Prop)→Prop):Prop:=(∀ (x1:A1) r,sp x1=some r→B x1→F x1 (fun y=>y=r))→aU P f g
abbrev E0 (P:Program) (f:FuncId) (g:List T→Option T) {A1 A2:Type} (sp:A1×A2→Option T) (B:A1×A2→Prop) (F:A1→A2→(T→Prop)→Prop):Prop:=(∀ (x1:A1) (x2:A2) r,sp (x1,x2)=some r→B (x1,x2)→F x1 x2 (fun y=>y=r))→aU P f g
abbrev V8 (P:Program) (f:FuncId) (g:List T→Option T) {A1 A2 A3:Type} (sp:A1×A2×A3→Option T) (B:A1×A2×A3→Prop) (F:A1→A2→A3→(T→Prop)→Prop):Prop:=(∀ (x1:A1) (x2:A2) (x3:A3) r,sp (x1,x2,x3)=some r→B (x1,x2,x3)→F x1 x2 x3 (fun y=>y=r))→aU P f g
abbrev YM (P:Program) (f:FuncId) (g:List T→Option T) {A1 A2 A3 A4:Type} (sp:A1×A2×A3×A4→Option T) (B:A1×A2×A3×A4→Prop) (F:A1→A2→A3→A4→(T→Prop)→Prop):Prop:=(∀ (x1:A1) (x2:A2) (x3:A3) (x4:A4) r,sp (x1,x2,x3,x4)=some r→B (x1,x2,x3,x4)→F x1 x2 x3 x4 (fun y=>y=r))→aU P f g
theorem O0 {P:Program} {E:Env} {Hs:FuncId→Hint} {a1:Bool×Sy} {sp:a1.2.den→Option T} {F:a1.2.den→(T→Prop)→Prop} {k:Nat} {f:FuncId} (hE:aM P E) (hm:P.follows .mixedOrders=true) (hn:a7 P=true) (hh:cS E) (hex:∃ fn c,P.funcs[f]? = some fn∧fn.body=some c) (hs:jZ [a1]=true) (hF:∀ x1 R,wX bP P E Hs k f (Sh.dS [a1] x1) R=F x1 R)
  (h:∀ x1 r,sp x1=some r→dO [a1] x1→F x1 (fun y=>y=r)):aU P f (gS (s:=[a1]) sp) :=
 pH hE hm hn hh k hex hs fun x r h1 h2=>by
  rw[hF]
  exact h x r h1 h2
theorem nM {P:Program} {E:Env} {Hs:FuncId→Hint} {a1 a2:Bool×Sy} {sp:a1.2.den×a2.2.den→Option T} {F:a1.2.den→a2.2.den→(T→Prop)→Prop} {k:Nat} {f:FuncId} (hE:aM P E) (hm:P.follows .mixedOrders=true) (hn:a7 P=true) (hh:cS E) (hex:∃ fn c,P.funcs[f]? = some fn∧fn.body=some c) (hs:jZ [a1,a2]=true) (hF:∀ x1 x2 R,wX bP P E Hs k f (Sh.dS [a1,a2] (x1,x2)) R=F x1 x2 R)
  (h:∀ x1 x2 r,sp (x1,x2)=some r→dO [a1,a2] (x1,x2)→F x1 x2 (fun y=>y=r)):aU P f (gS (s:=[a1,a2]) sp) :=
 pH hE hm hn hh k hex hs fun x r h1 h2=>by
  obtain ⟨x1,x2⟩:=x
  rw[hF]
  exact h x1 x2 r h1 h2
theorem O1 {P:Program} {E:Env} {Hs:FuncId→Hint} {a1 a2 a3:Bool×Sy} {sp:a1.2.den×a2.2.den×a3.2.den→Option T} {F:a1.2.den→a2.2.den→a3.2.den→(T→Prop)→Prop} {k:Nat} {f:FuncId} (hE:aM P E) (hm:P.follows .mixedOrders=true) (hn:a7 P=true) (hh:cS E) (hex:∃ fn c,P.funcs[f]? = some fn∧fn.body=some c) (hs:jZ [a1,a2,a3]=true) (hF:∀ x1 x2 x3 R,wX bP P E Hs k f (Sh.dS [a1,a2,a3] (x1,x2,x3)) R=F x1 x2 x3 R)
  (h:∀ x1 x2 x3 r,sp (x1,x2,x3)=some r→dO [a1,a2,a3] (x1,x2,x3)→F x1 x2 x3 (fun y=>y=r)):aU P f (gS (s:=[a1,a2,a3]) sp) :=
 pH hE hm hn hh k hex hs fun x r h1 h2=>by
  obtain ⟨x1,x2,x3⟩:=x
  rw[hF]
  exact h x1 x2 x3 r h1 h2
theorem YC {P:Program} {E:Env} {Hs:FuncId→Hint} {a1 a2 a3 a4:Bool×Sy} {sp:a1.2.den×a2.2.den×a3.2.den×a4.2.den→Option T} {F:a1.2.den→a2.2.den→a3.2.den→a4.2.den→(T→Prop)→Prop} {k:Nat} {f:FuncId} (hE:aM P E) (hm:P.follows .mixedOrders=true) (hn:a7 P=true) (hh:cS E) (hex:∃ fn c,P.funcs[f]? = some fn∧fn.body=some c) (hs:jZ [a1,a2,a3,a4]=true) (hF:∀ x1 x2 x3 x4 R,wX bP P E Hs k f (Sh.dS [a1,a2,a3,a4] (x1,x2,x3,x4)) R=F x1 x2 x3 x4 R)
  (h:∀ x1 x2 x3 x4 r,sp (x1,x2,x3,x4)=some r→dO [a1,a2,a3,a4] (x1,x2,x3,x4)→F x1 x2 x3 x4 (fun y=>y=r)):aU P f (gS (s:=[a1,a2,a3,a4]) sp) :=
 pH hE hm hn hh k hex hs fun x r h1 h2=>by
  obtain ⟨x1,x2,x3,x4⟩:=x
  rw[hF]
  exact h x1 x2 x3 x4 r h1 h2
open Classical in
noncomputable def gA {α X:Type} (A:X→List T) (sp:X→Option α) (args:List T):Option α:=if h:∃ x,args=A x then sp (Classical.choose h) else none
theorem WU {α X:Type} {A:X→List T} {sp:X→Option α} (hA:∀ x y,A x=A y→x=y) (x:X):gA A sp (A x)=sp x:=by
 unfold gA
 have he:∃ y,A x=A y:=⟨x,rfl⟩
 rw[dif_pos he]
 congr 1
 exact hA _ _ (Classical.choose_spec he).symm
theorem RW {α X:Type} {A:X→List T} {sp:X→Option α} {args:List T} {r:α} (h:gA A sp args=some r):∃ x,args=A x∧sp x=some r:=by
 unfold gA at h
 split at h
 ·rename_i he
  exact ⟨_,Classical.choose_spec he,h⟩
 ·cases h
theorem gF (b:Bool) (K:Prop):cQ b K=(b=true∧K):=rfl
theorem AG {r:Sy} {l:List r.den} {i:Nat} {y:r.den}:(List.map r.enc l)[i]? = some (r.enc y)↔l[i]? = some y:=by
 rw[List.getElem?_map]
 cases h:l[i]? with
 | none=>simp
 | some z=>simp only[Option.map_some,Option.some.injEq];exact ⟨Sy.eJ r _ _,fun e=>by rw[e]⟩
theorem zB (r:Sy) (l:List r.den) (i:Int) (K:r.den→Prop):aH r (List.map r.enc l) i K = ∃ y,0≤i∧l[i.toNat]? = some y∧K y:=by
 simp only[aH,AG]
theorem aC {r:Sy} {l:List r.den} {k:Nat} (h:k<l.length) (K:r.den→Prop):aH r (List.map r.enc l) (k:Int) K=K l[k]:=by
 rw[zB]
 apply propext
 constructor
 ·rintro ⟨y,_,h1,h2⟩
  rw[Int.toNat_natCast,List.getElem?_eq_getElem h] at h1
  cases h1;exact h2
 ·exact fun hk=>⟨l[k],by omega,by rw[Int.toNat_natCast,List.getElem?_eq_getElem h],hk⟩
theorem SV {r:Sy} {l:List r.den} {k:Nat} (h:k<l.length) (K:List T→Prop):EL (List.map r.enc l) k K=K (r.enc l[k]):=by
 unfold EL
 have e:(List.map r.enc l)[k]? = some (r.enc l[k]):=AG.2 (List.getElem?_eq_getElem h)
 apply propext
 constructor
 ·rintro ⟨y,h1,h2⟩
  rw[e] at h1;cases h1;exact h2
 ·exact fun hk=>⟨_,e,hk⟩
theorem PE {r:Sy} {l:List r.den} {k:Nat} (h:k<l.length) (K:r.den→Prop):nX r (List.map r.enc l) k 0 K=K l[k]:=by
 unfold nX
 have e:(List.map r.enc l)[k]? = some (r.enc l[k]):=AG.2 (List.getElem?_eq_getElem h)
 have e2:((r.enc l[k]).drop 0).take r.w=r.enc l[k]:=by rw[List.drop_zero,←Sy.bR r l[k],List.take_length]
 apply propext
 constructor
 ·rintro ⟨row,y,h1,_,h2,h3⟩
  rw[e] at h1;cases h1
  rw[e2] at h2
  rw[Sy.eJ r _ _ h2];exact h3
 ·exact fun hk=>⟨_,_,e,by rw[Sy.bR];omega,e2,hk⟩
theorem GA:∀ {s:Sh},jZ s=true→∀ {x y:Sh.den s},Sh.enc s x=Sh.enc s y→x=y
 | [],_,_,_,_=>rfl
 | [a],h,x,y,he=>uS (by simpa [jZ] using h) he
 | a::b::l,h,x,y,he=>by
  simp only[Sh.enc,T.aQ.injEq] at he
  exact uT h he
theorem aZ {s:Sh} (hs:jZ s=true) (y:Sh.den s) (K:Sh.den s→Prop):aN s (some (Sh.enc s y)) K=K y:=by
 apply propext
 constructor
 ·rintro ⟨z,h1,h2⟩
  rw[GA hs (Option.some.inj h1)];exact h2
 ·exact fun hk=>⟨y,rfl,hk⟩
theorem dA {s:Sh} {a:Option T} {y:Sh.den s} {K:Sh.den s→Prop} (h:a=some (Sh.enc s y)) (hk:K y):aN s a K:=⟨y,h,hk⟩
def Sy.pure:Sy→Bool
 | .any=>false
 | .pr a b=>a.pure&&b.pure
 | .li r=>r.pure
 | _=>true
theorem n9:∀ {r:Sy} (x:r.den),r.pure=true→(r.enc x).map (T.canon 0)=r.enc x
 | .int _,_,_=>rfl
 | .bool,_,_=>rfl
 | .str,_,_=>rfl
 | .any,_,h=>by simp[Sy.pure] at h
 | .pr a b,x,h=>by
  simp only[Sy.pure,Bool.and_eq_true] at h
  simp only[Sy.enc,List.map_append,n9 x.1 h.1,n9 x.2 h.2]
 | .li r,_,_=>rfl
theorem uJ {r:Sy} (h:r.pure=true) (l:List r.den):eA (List.map r.enc l)=List.map r.enc l:=by
 unfold eA
 rw[List.map_map]
 exact List.map_congr_left fun x _=>n9 x h
theorem CR (a b:List (List T)):eA (a++b)=eA a++eA b:=by simp[eA]
theorem cA {r:Sy} (h:r.pure=true) (l:List r.den) (K:List r.den→Prop):dH r (List.map r.enc l) K=K l:=by
 apply propext
 constructor
 ·rintro ⟨l',h1,h2⟩
  rw[uJ h] at h1
  rw[map_inj (Sy.eJ r) h1];exact h2
 ·exact fun hk=>⟨l,uJ h l,hk⟩
theorem gX {r:Sy} (h:r.pure=true) (l:List r.den) (row:List T) (y:r.den) (hy:row.map (T.canon 0)=r.enc y) (K:List r.den→Prop):dH r (List.map r.enc l++[row]) K=K (l++[y]):=by
 have e:eA (List.map r.enc l++[row])=List.map r.enc (l++[y]):=by
  rw[CR,uJ h,List.map_append]
  simp[eA,hy]
 apply propext
 constructor
 ·rintro ⟨l',h1,h2⟩
  rw[e] at h1
  rw[map_inj (Sy.eJ r) h1];exact h2
 ·exact fun hk=>⟨_,e,hk⟩
theorem aX {S:Type} {F:(S→Prop)→S→Prop} {s:S} (n:Nat) (J:Nat→S→Prop) (h0:J 0 s) (step:∀ (X:S→Prop) (k:Nat) (s:S),k≤n→J k s→(∀ s',k<n→J (k+1) s'→X s')→F X s):bM S F s:=by
 intro X hX
 have key:∀ m k s,n-k<m→k≤n→J k s→X s:=by
  intro m
  induction m with
  | zero=>intro k s h;omega
  | succ m ih=>intro k s hm hk hj;exact hX s (step X k s hk hj fun s' h1 h2=>ih (k+1) s' (by omega) (by omega) h2)
 exact key (n+1) 0 s (by omega) (by omega) h0
end Go.Pv
