/-
  The symbolic executor, part h: how one reasons about what it says.
-/
import Derived.Test.YtokajdeigdelgaaGreatDoorPv6kg
import Derived.Test.YtokajdeigdelgaaGreatDoorPv6wo
set_option linter.defProp false
set_option linter.unusedSimpArgs false
namespace Go.Pv
open Go Go.RowKit
def PU:(r:Sy)→r.den→Prop
 | .pr a b,x=>PU a x.1∧PU b x.2
 | .li r,l=>List.length (α:=r.den) l≤2 ^ 47∧∀ y,List.Mem y (show List r.den from l)→PU r y
 | .int _,_=>True
 | .bool,_=>True
 | .str,_=>True
 | .any,_=>True
theorem tJ:∀ {r:Sy} {x:r.den},(∀ t∈r.enc x,Bd t)→PU r x
 | .int _,_,_=>trivial
 | .bool,_,_=>trivial
 | .str,_,_=>trivial
 | .any,_,_=>trivial
 | .pr a b,x,h=>⟨tJ fun t ht=>h t (by simp only[Sy.enc,List.mem_append];exact .inl ht),tJ fun t ht=>h t (by simp only[Sy.enc,List.mem_append];exact .inr ht)⟩
 | .li r,l,h=>by
  have:=(SE _ _).1 (h (.sl false (List.map r.enc l)) (by simp[Sy.enc]))
  exact ⟨by have h1:(List.map r.enc (show List r.den from l)).length≤2 ^ 47:=this.1;rw[List.length_map] at h1;exact h1,fun y hy=>tJ fun t ht=>this.2 (r.enc y) (List.mem_map.2 ⟨y,hy,rfl⟩) t ht⟩
theorem FP {ag:Bool} {r:Sy} {x:r.den} (hw:(ag||r.w == 1)=true) (h:Bd (aJ ag r x)):PU r x:=by
 cases ag with
 | true=>exact tJ ((PV _).1 h)
 | false =>
  have hl:(r.enc x).length=1:=by rw[Sy.bO];simpa using hw
  obtain ⟨u,hu⟩:=List.length_eq_one_iff.1 hl
  refine tJ fun t ht=>?_
  rw[hu] at ht
  simp only[aJ,hu,R3] at h
  rw[List.mem_singleton.1 ht];exact h
def kD (s:Sh):Bool:=s.all fun x=>x.1||x.2.w == 1
theorem tV {ag:Bool} {r:Sy} (hw:(ag||r.w == 1)=true) {x y:r.den} (h:aJ ag r x=aJ ag r y):x=y:=by
 cases ag with
 | true=>simp only[aJ,T.agg.injEq] at h;exact Sy.fP r _ _ h
 | false =>
  have hx:(r.enc x).length=1:=by rw[Sy.bO];simpa using hw
  have hy:(r.enc y).length=1:=by rw[Sy.bO];simpa using hw
  obtain ⟨u,hu⟩:=List.length_eq_one_iff.1 hx
  obtain ⟨v,hv⟩:=List.length_eq_one_iff.1 hy
  simp only[aJ,hu,hv,R3] at h
  exact Sy.fP r _ _ (by rw[hu,hv,h])
theorem tW:∀ {s:Sh},kD s=true→∀ {x y:Sh.den s},Sh.fH s x=Sh.fH s y→x=y
 | [],_,_,_,_=>rfl
 | [a],h,x,y,he=>by
  simp only[Sh.fH,List.cons.injEq] at he
  exact tV (by simpa [kD] using h) he.1
 | a::b::l,h,x,y,he=>by
  have h':(a.1||a.2.w == 1)=true∧kD (b::l)=true:=by
   unfold kD at h ⊢
   rw[List.all_cons,Bool.and_eq_true] at h
   exact h
  simp only[Sh.fH,List.cons.injEq] at he
  exact Prod.ext (tV h'.1 he.1) (tW h'.2 he.2)
def dS:(s:Sh)→Sh.den s→Prop
 | [],_=>True
 | [a],x=>PU a.2 x
 | a::b::l,x=>PU a.2 x.1∧dS (b::l) x.2
theorem yT:∀ {s:Sh},kD s=true→∀ {x:Sh.den s},(∀ t∈Sh.fH s x,Bd t)→dS s x
 | [],_,_,_=>trivial
 | [a],h,x,hb=>FP (by simpa [kD] using h) (hb _ (by simp[Sh.fH]))
 | a::b::l,h,x,hb=>by
  have h':(a.1||a.2.w == 1)=true∧kD (b::l)=true:=by
   unfold kD at h ⊢
   rw[List.all_cons,Bool.and_eq_true] at h
   exact h
  exact ⟨FP h'.1 (hb _ (by simp[Sh.fH])),yT h'.2 fun t ht=>hb t (by simp only[Sh.fH,List.mem_cons];exact .inr ht)⟩
open Classical in
noncomputable def gS {α:Type} (s:Sh) (sp:Sh.den s→Option α) (args:List T):Option α:=if h:∃ x,args=Sh.fH s x then sp (Classical.choose h) else none
theorem bW {α:Type} {s:Sh} (hs:kD s=true) {sp:Sh.den s→Option α} {args:List T} (x:Sh.den s) (h:args=Sh.fH s x):gS s sp args=sp x:=by
 unfold gS
 have he:∃ x,args=Sh.fH s x:=⟨x,h⟩
 rw[dif_pos he]
 congr 1
 exact tW hs ((Classical.choose_spec he).symm.trans h)
theorem zJ {α:Type} {s:Sh} {sp:Sh.den s→Option α} {args:List T} {r:α} (h:gS s sp args=some r):∃ x,args=Sh.fH s x∧sp x=some r:=by
 unfold gS at h
 split at h
 ·rename_i he
  exact ⟨_,Classical.choose_spec he,h⟩
 ·cases h
theorem u4 {P:Program} {E:Env} {Hs:FuncId→Hint} (hE:aG P E) (hm:P.follows .mixedOrders=true) (hn:bS P=true) (hh:dH E) (k:Nat) {f:FuncId} {s:Sh} {sp:Sh.den s→Option T} (hex:∃ fn c,P.funcs[f]? = some fn∧fn.body=some c) (hs:kD s=true)
  (h:∀ x r,sp x=some r→dS s x→x7 cA P E Hs k f (Sh.fH s x) (fun y=>y=r)):aW P f (gS s sp) :=
 I0 hE hm hn hh k hex fun args r hg hb=>by
  obtain ⟨x,rfl,hx⟩:=zJ hg
  exact h x r hx (yT hs hb)
theorem HV {P:Program} {E:Env} {Hs:FuncId→Hint} (hE:aG P E) (hm:P.follows .mixedOrders=true) (hn:bS P=true) (hh:dH E) (k:Nat) {f:FuncId} {s:Sh} {sp:Sh.den s→Option (List (List T))} (hex:∃ fn c,P.funcs[f]? = some fn∧fn.body=some c) (hs:kD s=true)
  (h:∀ x r,sp x=some r→dS s x→o0 cA P E Hs k f (Sh.fH s x) (fun y=>y=r)):b6 P f (gS s sp) :=
 uH hE hm hn hh k hex fun args r hg hb=>by
  obtain ⟨x,rfl,hx⟩:=zJ hg
  exact h x r hx (yT hs hb)
def xD:List (Nat×LH)→Nat→LH
 | [],_=>.none
 | (a,h)::l,r=>match r == a with
  | true=>h
  | false=>xD l r
def iE (f:FuncId) (l:List (Nat×LH)) (n:FuncId→Hint):FuncId→Hint:=fun g=>match g == f with
 | true=>⟨xD l,fun _ _=>none,fun _=>none⟩
 | false=>n g
abbrev TY (P:Program) (f:FuncId) (g:List T→Option T) {A1:Type} (sp:A1→Option T) (B:A1→Prop) (F:A1→(T→Prop)→Prop):Prop:=(∀ (x1:A1) r,sp x1=some r→B x1→F x1 (fun y=>y=r))→aW P f g
abbrev vS (P:Program) (f:FuncId) (g:List T→Option T) {A1 A2:Type} (sp:A1×A2→Option T) (B:A1×A2→Prop) (F:A1→A2→(T→Prop)→Prop):Prop:=(∀ (x1:A1) (x2:A2) r,sp (x1,x2)=some r→B (x1,x2)→F x1 x2 (fun y=>y=r))→aW P f g
abbrev UZ (P:Program) (f:FuncId) (g:List T→Option T) {A1 A2 A3:Type} (sp:A1×A2×A3→Option T) (B:A1×A2×A3→Prop) (F:A1→A2→A3→(T→Prop)→Prop):Prop:=(∀ (x1:A1) (x2:A2) (x3:A3) r,sp (x1,x2,x3)=some r→B (x1,x2,x3)→F x1 x2 x3 (fun y=>y=r))→aW P f g
theorem OP {P:Program} {E:Env} {Hs:FuncId→Hint} {a1:Bool×Sy} {sp:a1.2.den→Option T} {F:a1.2.den→(T→Prop)→Prop} {k:Nat} {f:FuncId} (hE:aG P E) (hm:P.follows .mixedOrders=true) (hn:bS P=true) (hh:dH E) (hex:∃ fn c,P.funcs[f]? = some fn∧fn.body=some c) (hs:kD [a1]=true) (hF:∀ x1 R,x7 cA P E Hs k f (Sh.fH [a1] x1) R=F x1 R)
  (h:∀ x1 r,sp x1=some r→dS [a1] x1→F x1 (fun y=>y=r)):aW P f (gS (s:=[a1]) sp) :=
 u4 hE hm hn hh k hex hs fun x r h1 h2=>by
  rw[hF]
  exact h x r h1 h2
theorem iS {P:Program} {E:Env} {Hs:FuncId→Hint} {a1 a2:Bool×Sy} {sp:a1.2.den×a2.2.den→Option T} {F:a1.2.den→a2.2.den→(T→Prop)→Prop} {k:Nat} {f:FuncId} (hE:aG P E) (hm:P.follows .mixedOrders=true) (hn:bS P=true) (hh:dH E) (hex:∃ fn c,P.funcs[f]? = some fn∧fn.body=some c) (hs:kD [a1,a2]=true) (hF:∀ x1 x2 R,x7 cA P E Hs k f (Sh.fH [a1,a2] (x1,x2)) R=F x1 x2 R)
  (h:∀ x1 x2 r,sp (x1,x2)=some r→dS [a1,a2] (x1,x2)→F x1 x2 (fun y=>y=r)):aW P f (gS (s:=[a1,a2]) sp) :=
 u4 hE hm hn hh k hex hs fun x r h1 h2=>by
  obtain ⟨x1,x2⟩:=x
  rw[hF]
  exact h x1 x2 r h1 h2
theorem UM {P:Program} {E:Env} {Hs:FuncId→Hint} {a1 a2 a3:Bool×Sy} {sp:a1.2.den×a2.2.den×a3.2.den→Option T} {F:a1.2.den→a2.2.den→a3.2.den→(T→Prop)→Prop} {k:Nat} {f:FuncId} (hE:aG P E) (hm:P.follows .mixedOrders=true) (hn:bS P=true) (hh:dH E) (hex:∃ fn c,P.funcs[f]? = some fn∧fn.body=some c) (hs:kD [a1,a2,a3]=true) (hF:∀ x1 x2 x3 R,x7 cA P E Hs k f (Sh.fH [a1,a2,a3] (x1,x2,x3)) R=F x1 x2 x3 R)
  (h:∀ x1 x2 x3 r,sp (x1,x2,x3)=some r→dS [a1,a2,a3] (x1,x2,x3)→F x1 x2 x3 (fun y=>y=r)):aW P f (gS (s:=[a1,a2,a3]) sp) :=
 u4 hE hm hn hh k hex hs fun x r h1 h2=>by
  obtain ⟨x1,x2,x3⟩:=x
  rw[hF]
  exact h x1 x2 x3 r h1 h2
open Classical in
theorem EK (A B:Prop):aD true A B=A:=propext ⟨fun h=>h,fun h=>h⟩
theorem EJ (A B:Prop):aD false A B=B:=propext ⟨fun h=>h,fun h=>h⟩
theorem dQ (x:aE) (K:Prop):mO x x K=K:=by simp[mO]
theorem FV {r:Sy} {l:List r.den} {i:Nat} {y:r.den}:(List.map r.enc l)[i]? = some (r.enc y)↔l[i]? = some y:=by
 rw[List.getElem?_map]
 cases h:l[i]? with
 | none=>simp
 | some z=>simp only[Option.map_some,Option.some.injEq];exact ⟨Sy.fP r _ _,fun e=>by rw[e]⟩
theorem I5 (r:Sy) (l:List r.den) (i:Int) (K:r.den→Prop):aO r (List.map r.enc l) i K = ∃ y,0≤i∧l[i.toNat]? = some y∧K y:=by
 simp only[aO,FV]
theorem c0 {r:Sy} {l:List r.den} {k:Nat} (h:k<l.length) (K:r.den→Prop):aO r (List.map r.enc l) (k:Int) K=K l[k]:=by
 rw[I5]
 apply propext
 constructor
 ·rintro ⟨y,_,h1,h2⟩
  rw[Int.toNat_natCast,List.getElem?_eq_getElem h] at h1
  cases h1;exact h2
 ·exact fun hk=>⟨l[k],by omega,by rw[Int.toNat_natCast,List.getElem?_eq_getElem h],hk⟩
theorem MD {r:Sy} {l:List r.den} {k:Nat} (h:k<l.length) (K:r.den→Prop):bR r (List.map r.enc l) k 0 K=K l[k]:=by
 unfold bR
 have e:(List.map r.enc l)[k]? = some (r.enc l[k]):=FV.2 (List.getElem?_eq_getElem h)
 have e2:((r.enc l[k]).drop 0).take r.w=r.enc l[k]:=by rw[List.drop_zero,←Sy.bO r l[k],List.take_length]
 apply propext
 constructor
 ·rintro ⟨row,y,h1,_,h2,h3⟩
  rw[e] at h1;cases h1
  rw[e2] at h2
  rw[Sy.fP r _ _ h2];exact h3
 ·exact fun hk=>⟨_,_,e,by rw[Sy.bO];omega,e2,hk⟩
theorem D4:∀ {s:Sh},kD s=true→∀ {x y:Sh.den s},Sh.enc s x=Sh.enc s y→x=y
 | [],_,_,_,_=>rfl
 | [a],h,x,y,he=>tV (by simpa [kD] using h) he
 | a::b::l,h,x,y,he=>by
  simp only[Sh.enc,T.cB.injEq] at he
  exact tW h he
theorem G6 {s:Sh} (hs:kD s=true) (y:Sh.den s) (K:Sh.den s→Prop):aY s (some (Sh.enc s y)) K=K y:=by
 apply propext
 constructor
 ·rintro ⟨z,h1,h2⟩
  rw[D4 hs (Option.some.inj h1)];exact h2
 ·exact fun hk=>⟨y,rfl,hk⟩
theorem qS {r:Sy} {a:Option (List (List T))} {l:List r.den} (h:a=some (List.map r.enc l)) (K:List r.den→Prop) (hk:K l):oM r a K:=⟨l,h,hk⟩
theorem nA {α:Type} {p:α→Bool} {l:List α} {k:Nat} (h:k<l.length):(l.drop k).find? p=if p l[k]=true then some l[k] else (l.drop (k+1)).find? p:=by
 rw[List.drop_eq_getElem_cons h,List.find?_cons]
 cases p l[k]<;>rfl
theorem aZ {s:Sh} {a:Option T} {y:Sh.den s} {K:Sh.den s→Prop} (h:a=some (Sh.enc s y)) (hk:K y):aY s a K:=⟨y,h,hk⟩
def Sy.pure:Sy→Bool
 | .any=>false
 | .pr a b=>a.pure&&b.pure
 | .li r=>r.pure
 | _=>true
theorem jY:∀ {r:Sy} (x:r.den),r.pure=true→(r.enc x).map (T.canon 0)=r.enc x
 | .int _,_,_=>rfl
 | .bool,_,_=>rfl
 | .str,_,_=>rfl
 | .any,_,h=>by simp[Sy.pure] at h
 | .pr a b,x,h=>by
  simp only[Sy.pure,Bool.and_eq_true] at h
  simp only[Sy.enc,List.map_append,jY x.1 h.1,jY x.2 h.2]
 | .li r,_,_=>rfl
theorem tN {r:Sy} (h:r.pure=true) (l:List r.den):dX (List.map r.enc l)=List.map r.enc l:=by
 unfold dX
 rw[List.map_map]
 exact List.map_congr_left fun x _=>jY x h
theorem BA (a b:List (List T)):dX (a++b)=dX a++dX b:=by simp[dX]
theorem pA {r:Sy} (h:r.pure=true) (l:List r.den) (K:List r.den→Prop):b7 r (List.map r.enc l) K=K l:=by
 apply propext
 constructor
 ·rintro ⟨l',h1,h2⟩
  rw[tN h] at h1
  rw[map_inj (Sy.fP r) h1];exact h2
 ·exact fun hk=>⟨l,tN h l,hk⟩
theorem HA {r:Sy} (h:r.pure=true) (l:List r.den) (row:List T) (y:r.den) (hy:row.map (T.canon 0)=r.enc y) (K:List r.den→Prop):b7 r (List.map r.enc l++[row]) K=K (l++[y]):=by
 have e:dX (List.map r.enc l++[row])=List.map r.enc (l++[y]):=by
  rw[BA,tN h,List.map_append]
  simp[dX,hy]
 apply propext
 constructor
 ·rintro ⟨l',h1,h2⟩
  rw[e] at h1
  rw[map_inj (Sy.fP r) h1];exact h2
 ·exact fun hk=>⟨_,e,hk⟩
theorem xE {S:Type} {F:(S→Prop)→S→Prop} {s:S} (I:S→Prop) (μ:S→Nat) (h0:I s) (step:∀ (X:S→Prop) (s:S),I s→(∀ s',I s'→μ s'<μ s→X s')→F X s):bB S F s:=by
 intro X hX
 have key:∀ n s,μ s<n→I s→X s:=by
  intro n
  induction n with
  | zero=>intro s h;omega
  | succ n ih=>intro s hn hi;exact hX s (step X s hi fun s' h1 h2=>ih s' (by omega) h1)
 exact key (μ s+1) s (by omega) h0
theorem eD {S:Type} {F:(S→Prop)→S→Prop} {s:S} (n:Nat) (J:Nat→S→Prop) (h0:J 0 s) (step:∀ (X:S→Prop) (k:Nat) (s:S),k≤n→J k s→(∀ s',k<n→J (k+1) s'→X s')→F X s):bB S F s:=by
 intro X hX
 have key:∀ m k s,n-k<m→k≤n→J k s→X s:=by
  intro m
  induction m with
  | zero=>intro k s h;omega
  | succ m ih=>intro k s hm hk hj;exact hX s (step X k s hk hj fun s' h1 h2=>ih (k+1) s' (by omega) (by omega) h2)
 exact key (n+1) 0 s (by omega) (by omega) h0
theorem zP {α:Type} {l:List α} {k:Nat}:decide ((k:Int)<(l.length:Int))=decide (k<l.length):=by simp
end Go.Pv
