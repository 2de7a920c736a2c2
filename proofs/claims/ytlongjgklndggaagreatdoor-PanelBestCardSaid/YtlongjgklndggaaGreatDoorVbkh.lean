/-
  The symbolic executor, part h: how one reasons about what it says.
-/
import Derived.Test.YtlongjgklndggaaGreatDoorVbkg
import Derived.Test.YtlongjgklndggaaGreatDoorVbwo
set_option linter.defProp false
set_option linter.unusedSimpArgs false
namespace Go.Pv
open Go Go.RowKit
def PU:(r:Sy)→r.den→Prop
 | .pr a b,x=>PU a x.1∧PU b x.2
 | .li r,l=>List.length (α:=r.den) l≤2 ^ 47∧∀ y,List.Mem y (show List r.den from l)→PU r y
 | .int _,_=>True
 | .bool,_=>True
 | .str,_=>True
 | .any,_=>True
theorem sC:∀ {r:Sy} {x:r.den},(∀ t∈r.enc x,Bd t)→PU r x
 | .int _,_,_=>trivial
 | .bool,_,_=>trivial
 | .str,_,_=>trivial
 | .any,_,_=>trivial
 | .pr a b,x,h=>⟨sC fun t ht=>h t (by simp only[Sy.enc,List.mem_append];exact .inl ht),sC fun t ht=>h t (by simp only[Sy.enc,List.mem_append];exact .inr ht)⟩
 | .li r,l,h=>by
  have:=(SI _ _).1 (h (.sl false (List.map r.enc l)) (by simp[Sy.enc]))
  exact ⟨by have h1:(List.map r.enc (show List r.den from l)).length≤2 ^ 47:=this.1;rw[List.length_map] at h1;exact h1,fun y hy=>sC fun t ht=>this.2 (r.enc y) (List.mem_map.2 ⟨y,hy,rfl⟩) t ht⟩
theorem EZ {ag:Bool} {r:Sy} {x:r.den} (hw:(ag||r.w == 1)=true) (h:Bd (bI ag r x)):PU r x:=by
 cases ag with
 | true=>exact sC ((PV _).1 h)
 | false =>
  have hl:(r.enc x).length=1:=by rw[Sy.bD];simpa using hw
  obtain ⟨u,hu⟩:=List.length_eq_one_iff.1 hl
  refine sC fun t ht=>?_
  rw[hu] at ht
  simp only[bI,hu,R9] at h
  rw[List.mem_singleton.1 ht];exact h
def iZ (s:Sh):Bool:=s.all fun x=>x.1||x.2.w == 1
theorem sQ {ag:Bool} {r:Sy} (hw:(ag||r.w == 1)=true) {x y:r.den} (h:bI ag r x=bI ag r y):x=y:=by
 cases ag with
 | true=>simp only[bI,T.agg.injEq] at h;exact Sy.eF r _ _ h
 | false =>
  have hx:(r.enc x).length=1:=by rw[Sy.bD];simpa using hw
  have hy:(r.enc y).length=1:=by rw[Sy.bD];simpa using hw
  obtain ⟨u,hu⟩:=List.length_eq_one_iff.1 hx
  obtain ⟨v,hv⟩:=List.length_eq_one_iff.1 hy
  simp only[bI,hu,hv,R9] at h
  exact Sy.eF r _ _ (by rw[hu,hv,h])
theorem sR:∀ {s:Sh},iZ s=true→∀ {x y:Sh.den s},Sh.dQ s x=Sh.dQ s y→x=y
 | [],_,_,_,_=>rfl
 | [a],h,x,y,he=>by
  simp only[Sh.dQ,List.cons.injEq] at he
  exact sQ (by simpa [iZ] using h) he.1
 | a::b::l,h,x,y,he=>by
  have h':(a.1||a.2.w == 1)=true∧iZ (b::l)=true:=by
   unfold iZ at h ⊢
   rw[List.all_cons,Bool.and_eq_true] at h
   exact h
  simp only[Sh.dQ,List.cons.injEq] at he
  exact Prod.ext (sQ h'.1 he.1) (sR h'.2 he.2)
def fR:(s:Sh)→Sh.den s→Prop
 | [],_=>True
 | [a],x=>PU a.2 x
 | a::b::l,x=>PU a.2 x.1∧fR (b::l) x.2
theorem xS:∀ {s:Sh},iZ s=true→∀ {x:Sh.den s},(∀ t∈Sh.dQ s x,Bd t)→fR s x
 | [],_,_,_=>trivial
 | [a],h,x,hb=>EZ (by simpa [iZ] using h) (hb _ (by simp[Sh.dQ]))
 | a::b::l,h,x,hb=>by
  have h':(a.1||a.2.w == 1)=true∧iZ (b::l)=true:=by
   unfold iZ at h ⊢
   rw[List.all_cons,Bool.and_eq_true] at h
   exact h
  exact ⟨EZ h'.1 (hb _ (by simp[Sh.dQ])),xS h'.2 fun t ht=>hb t (by simp only[Sh.dQ,List.mem_cons];exact .inr ht)⟩
open Classical in
noncomputable def gS {α:Type} (s:Sh) (sp:Sh.den s→Option α) (args:List T):Option α:=if h:∃ x,args=Sh.dQ s x then sp (Classical.choose h) else none
theorem dI {α:Type} {s:Sh} (hs:iZ s=true) {sp:Sh.den s→Option α} {args:List T} (x:Sh.den s) (h:args=Sh.dQ s x):gS s sp args=sp x:=by
 unfold gS
 have he:∃ x,args=Sh.dQ s x:=⟨x,h⟩
 rw[dif_pos he]
 congr 1
 exact sR hs ((Classical.choose_spec he).symm.trans h)
theorem yA {α:Type} {s:Sh} {sp:Sh.den s→Option α} {args:List T} {r:α} (h:gS s sp args=some r):∃ x,args=Sh.dQ s x∧sp x=some r:=by
 unfold gS at h
 split at h
 ·rename_i he
  exact ⟨_,Classical.choose_spec he,h⟩
 ·cases h
theorem n9 {P:Program} {E:Env} {Hs:FuncId→Hint} (hE:aL P E) (hm:P.follows .mixedOrders=true) (hn:a6 P=true) (hh:cM E) (k:Nat) {f:FuncId} {s:Sh} {sp:Sh.den s→Option T} (hex:∃ fn c,P.funcs[f]? = some fn∧fn.body=some c) (hs:iZ s=true)
  (h:∀ x r,sp x=some r→fR s x→uZ bC P E Hs k f (Sh.dQ s x) (fun y=>y=r)):aW P f (gS s sp) :=
 IG hE hm hn hh k hex fun args r hg hb=>by
  obtain ⟨x,rfl,hx⟩:=yA hg
  exact h x r hx (xS hs hb)
theorem OE {P:Program} {E:Env} {Hs:FuncId→Hint} (hE:aL P E) (hm:P.follows .mixedOrders=true) (hn:a6 P=true) (hh:cM E) (k:Nat) {f:FuncId} {s:Sh} {sp:Sh.den s→Option T} (hex:∃ fn c,P.funcs[f]? = some fn∧fn.body=some c) (hs:iZ s=true)
  (h:∀ x r,sp x=some r→fR s x→zE bC P E Hs k f (Sh.dQ s x) (fun y=>y=r)):rY P f (gS s sp) :=
 K4 hE hm hn hh k hex fun args r hg hb=>by
  obtain ⟨x,rfl,hx⟩:=yA hg
  exact h x r hx (xS hs hb)
def PD:List (Nat×LH)→Nat→LH
 | [],_=>.none
 | (a,h)::l,r=>match r == a with
  | true=>h
  | false=>PD l r
def j2 (f:FuncId) (l:List (Nat×LH)) (n:FuncId→Hint):FuncId→Hint:=fun g=>match g == f with
 | true=>⟨PD l,fun _ _=>none,fun _=>none⟩
 | false=>n g
abbrev T9 (P:Program) (f:FuncId) (g:List T→Option T) {A1:Type} (sp:A1→Option T) (B:A1→Prop) (F:A1→(T→Prop)→Prop):Prop:=(∀ (x1:A1) r,sp x1=some r→B x1→F x1 (fun y=>y=r))→aW P f g
abbrev JD (P:Program) (f:FuncId) (g:List T→Option T) {A1 A2:Type} (sp:A1×A2→Option T) (B:A1×A2→Prop) (F:A1→A2→(T→Prop)→Prop):Prop:=(∀ (x1:A1) (x2:A2) r,sp (x1,x2)=some r→B (x1,x2)→F x1 x2 (fun y=>y=r))→aW P f g
abbrev UY (P:Program) (f:FuncId) (g:List T→Option T) {A1 A2 A3:Type} (sp:A1×A2×A3→Option T) (B:A1×A2×A3→Prop) (F:A1→A2→A3→(T→Prop)→Prop):Prop:=(∀ (x1:A1) (x2:A2) (x3:A3) r,sp (x1,x2,x3)=some r→B (x1,x2,x3)→F x1 x2 x3 (fun y=>y=r))→aW P f g
abbrev UZ (P:Program) (f:FuncId) (g:List T→Option T) {A1 A2 A3 A4:Type} (sp:A1×A2×A3×A4→Option T) (B:A1×A2×A3×A4→Prop) (F:A1→A2→A3→A4→(T→Prop)→Prop):Prop:=(∀ (x1:A1) (x2:A2) (x3:A3) (x4:A4) r,sp (x1,x2,x3,x4)=some r→B (x1,x2,x3,x4)→F x1 x2 x3 x4 (fun y=>y=r))→aW P f g
theorem RI {P:Program} {E:Env} {Hs:FuncId→Hint} {a1:Bool×Sy} {sp:a1.2.den→Option T} {F:a1.2.den→(T→Prop)→Prop} {k:Nat} {f:FuncId} (hE:aL P E) (hm:P.follows .mixedOrders=true) (hn:a6 P=true) (hh:cM E) (hex:∃ fn c,P.funcs[f]? = some fn∧fn.body=some c) (hs:iZ [a1]=true) (hF:∀ x1 R,uZ bC P E Hs k f (Sh.dQ [a1] x1) R=F x1 R)
  (h:∀ x1 r,sp x1=some r→fR [a1] x1→F x1 (fun y=>y=r)):aW P f (gS (s:=[a1]) sp) :=
 n9 hE hm hn hh k hex hs fun x r h1 h2=>by
  rw[hF]
  exact h x r h1 h2
theorem uE {P:Program} {E:Env} {Hs:FuncId→Hint} {a1 a2:Bool×Sy} {sp:a1.2.den×a2.2.den→Option T} {F:a1.2.den→a2.2.den→(T→Prop)→Prop} {k:Nat} {f:FuncId} (hE:aL P E) (hm:P.follows .mixedOrders=true) (hn:a6 P=true) (hh:cM E) (hex:∃ fn c,P.funcs[f]? = some fn∧fn.body=some c) (hs:iZ [a1,a2]=true) (hF:∀ x1 x2 R,uZ bC P E Hs k f (Sh.dQ [a1,a2] (x1,x2)) R=F x1 x2 R)
  (h:∀ x1 x2 r,sp (x1,x2)=some r→fR [a1,a2] (x1,x2)→F x1 x2 (fun y=>y=r)):aW P f (gS (s:=[a1,a2]) sp) :=
 n9 hE hm hn hh k hex hs fun x r h1 h2=>by
  obtain ⟨x1,x2⟩:=x
  rw[hF]
  exact h x1 x2 r h1 h2
theorem UM {P:Program} {E:Env} {Hs:FuncId→Hint} {a1 a2 a3:Bool×Sy} {sp:a1.2.den×a2.2.den×a3.2.den→Option T} {F:a1.2.den→a2.2.den→a3.2.den→(T→Prop)→Prop} {k:Nat} {f:FuncId} (hE:aL P E) (hm:P.follows .mixedOrders=true) (hn:a6 P=true) (hh:cM E) (hex:∃ fn c,P.funcs[f]? = some fn∧fn.body=some c) (hs:iZ [a1,a2,a3]=true) (hF:∀ x1 x2 x3 R,uZ bC P E Hs k f (Sh.dQ [a1,a2,a3] (x1,x2,x3)) R=F x1 x2 x3 R)
  (h:∀ x1 x2 x3 r,sp (x1,x2,x3)=some r→fR [a1,a2,a3] (x1,x2,x3)→F x1 x2 x3 (fun y=>y=r)):aW P f (gS (s:=[a1,a2,a3]) sp) :=
 n9 hE hm hn hh k hex hs fun x r h1 h2=>by
  obtain ⟨x1,x2,x3⟩:=x
  rw[hF]
  exact h x1 x2 x3 r h1 h2
theorem UN {P:Program} {E:Env} {Hs:FuncId→Hint} {a1 a2 a3 a4:Bool×Sy} {sp:a1.2.den×a2.2.den×a3.2.den×a4.2.den→Option T} {F:a1.2.den→a2.2.den→a3.2.den→a4.2.den→(T→Prop)→Prop} {k:Nat} {f:FuncId} (hE:aL P E) (hm:P.follows .mixedOrders=true) (hn:a6 P=true) (hh:cM E) (hex:∃ fn c,P.funcs[f]? = some fn∧fn.body=some c) (hs:iZ [a1,a2,a3,a4]=true) (hF:∀ x1 x2 x3 x4 R,uZ bC P E Hs k f (Sh.dQ [a1,a2,a3,a4] (x1,x2,x3,x4)) R=F x1 x2 x3 x4 R)
  (h:∀ x1 x2 x3 x4 r,sp (x1,x2,x3,x4)=some r→fR [a1,a2,a3,a4] (x1,x2,x3,x4)→F x1 x2 x3 x4 (fun y=>y=r)):aW P f (gS (s:=[a1,a2,a3,a4]) sp) :=
 n9 hE hm hn hh k hex hs fun x r h1 h2=>by
  obtain ⟨x1,x2,x3,x4⟩:=x
  rw[hF]
  exact h x1 x2 x3 x4 r h1 h2
open Classical in
noncomputable def gA {α X:Type} (A:X→List T) (sp:X→Option α) (args:List T):Option α:=if h:∃ x,args=A x then sp (Classical.choose h) else none
theorem TA {α X:Type} {A:X→List T} {sp:X→Option α} (hA:∀ x y,A x=A y→x=y) (x:X):gA A sp (A x)=sp x:=by
 unfold gA
 have he:∃ y,A x=A y:=⟨x,rfl⟩
 rw[dif_pos he]
 congr 1
 exact hA _ _ (Classical.choose_spec he).symm
theorem NV {α X:Type} {A:X→List T} {sp:X→Option α} {args:List T} {r:α} (h:gA A sp args=some r):∃ x,args=A x∧sp x=some r:=by
 unfold gA at h
 split at h
 ·rename_i he
  exact ⟨_,Classical.choose_spec he,h⟩
 ·cases h
theorem oC (b:Bool) (K:Prop):c4 b K=(b=true∧K):=rfl
theorem xX {r:Sy} {l:List r.den} {i:Nat} {y:r.den}:(List.map r.enc l)[i]? = some (r.enc y)↔l[i]? = some y:=by
 rw[List.getElem?_map]
 cases h:l[i]? with
 | none=>simp
 | some z=>simp only[Option.map_some,Option.some.injEq];exact ⟨Sy.eF r _ _,fun e=>by rw[e]⟩
theorem w4 (r:Sy) (l:List r.den) (i:Int) (K:r.den→Prop):aT r (List.map r.enc l) i K = ∃ y,0≤i∧l[i.toNat]? = some y∧K y:=by
 simp only[aT,xX]
theorem aP {r:Sy} {l:List r.den} {k:Nat} (h:k<l.length) (K:r.den→Prop):aT r (List.map r.enc l) (k:Int) K=K l[k]:=by
 rw[w4]
 apply propext
 constructor
 ·rintro ⟨y,_,h1,h2⟩
  rw[Int.toNat_natCast,List.getElem?_eq_getElem h] at h1
  cases h1;exact h2
 ·exact fun hk=>⟨l[k],by omega,by rw[Int.toNat_natCast,List.getElem?_eq_getElem h],hk⟩
theorem F4 {r:Sy} {l:List r.den} {k:Nat} (h:k<l.length) (K:List T→Prop):BY (List.map r.enc l) k K=K (r.enc l[k]):=by
 unfold BY
 have e:(List.map r.enc l)[k]? = some (r.enc l[k]):=xX.2 (List.getElem?_eq_getElem h)
 apply propext
 constructor
 ·rintro ⟨y,h1,h2⟩
  rw[e] at h1;cases h1;exact h2
 ·exact fun hk=>⟨_,e,hk⟩
theorem LN {r:Sy} {l:List r.den} {k:Nat} (h:k<l.length) (K:r.den→Prop):mJ r (List.map r.enc l) k 0 K=K l[k]:=by
 unfold mJ
 have e:(List.map r.enc l)[k]? = some (r.enc l[k]):=xX.2 (List.getElem?_eq_getElem h)
 have e2:((r.enc l[k]).drop 0).take r.w=r.enc l[k]:=by rw[List.drop_zero,←Sy.bD r l[k],List.take_length]
 apply propext
 constructor
 ·rintro ⟨row,y,h1,_,h2,h3⟩
  rw[e] at h1;cases h1
  rw[e2] at h2
  rw[Sy.eF r _ _ h2];exact h3
 ·exact fun hk=>⟨_,_,e,by rw[Sy.bD];omega,e2,hk⟩
theorem C8:∀ {s:Sh},iZ s=true→∀ {x y:Sh.den s},Sh.enc s x=Sh.enc s y→x=y
 | [],_,_,_,_=>rfl
 | [a],h,x,y,he=>sQ (by simpa [iZ] using h) he
 | a::b::l,h,x,y,he=>by
  simp only[Sh.enc,T.aR.injEq] at he
  exact sR h he
theorem bL {s:Sh} (hs:iZ s=true) (y:Sh.den s) (K:Sh.den s→Prop):aO s (some (Sh.enc s y)) K=K y:=by
 apply propext
 constructor
 ·rintro ⟨z,h1,h2⟩
  rw[C8 hs (Option.some.inj h1)];exact h2
 ·exact fun hk=>⟨y,rfl,hk⟩
theorem fD {s:Sh} {a:Option T} {y:Sh.den s} {K:Sh.den s→Prop} (h:a=some (Sh.enc s y)) (hk:K y):aO s a K:=⟨y,h,hk⟩
def Sy.pure:Sy→Bool
 | .any=>false
 | .pr a b=>a.pure&&b.pure
 | .li r=>r.pure
 | _=>true
theorem mR:∀ {r:Sy} (x:r.den),r.pure=true→(r.enc x).map (T.canon 0)=r.enc x
 | .int _,_,_=>rfl
 | .bool,_,_=>rfl
 | .str,_,_=>rfl
 | .any,_,h=>by simp[Sy.pure] at h
 | .pr a b,x,h=>by
  simp only[Sy.pure,Bool.and_eq_true] at h
  simp only[Sy.enc,List.map_append,mR x.1 h.1,mR x.2 h.2]
 | .li r,_,_=>rfl
theorem sI {r:Sy} (h:r.pure=true) (l:List r.den):dU (List.map r.enc l)=List.map r.enc l:=by
 unfold dU
 rw[List.map_map]
 exact List.map_congr_left fun x _=>mR x h
theorem AA (a b:List (List T)):dU (a++b)=dU a++dU b:=by simp[dU]
theorem bX {r:Sy} (h:r.pure=true) (l:List r.den) (K:List r.den→Prop):dZ r (List.map r.enc l) K=K l:=by
 apply propext
 constructor
 ·rintro ⟨l',h1,h2⟩
  rw[sI h] at h1
  rw[map_inj (Sy.eF r) h1];exact h2
 ·exact fun hk=>⟨l,sI h l,hk⟩
theorem gC {r:Sy} (h:r.pure=true) (l:List r.den) (row:List T) (y:r.den) (hy:row.map (T.canon 0)=r.enc y) (K:List r.den→Prop):dZ r (List.map r.enc l++[row]) K=K (l++[y]):=by
 have e:dU (List.map r.enc l++[row])=List.map r.enc (l++[y]):=by
  rw[AA,sI h,List.map_append]
  simp[dU,hy]
 apply propext
 constructor
 ·rintro ⟨l',h1,h2⟩
  rw[e] at h1
  rw[map_inj (Sy.eF r) h1];exact h2
 ·exact fun hk=>⟨_,e,hk⟩
theorem bE {S:Type} {F:(S→Prop)→S→Prop} {s:S} (n:Nat) (J:Nat→S→Prop) (h0:J 0 s) (step:∀ (X:S→Prop) (k:Nat) (s:S),k≤n→J k s→(∀ s',k<n→J (k+1) s'→X s')→F X s):b9 S F s:=by
 intro X hX
 have key:∀ m k s,n-k<m→k≤n→J k s→X s:=by
  intro m
  induction m with
  | zero=>intro k s h;omega
  | succ m ih=>intro k s hm hk hj;exact hX s (step X k s hk hj fun s' h1 h2=>ih (k+1) s' (by omega) (by omega) h2)
 exact key (n+1) 0 s (by omega) (by omega) h0
end Go.Pv
