/-
  The symbolic executor, part h: how one reasons about what it says.
-/
import Derived.Test.YtcdomkejkfcjlaaGreatDoorPskg
import Derived.Test.YtcdomkejkfcjlaaGreatDoorPswo
set_option linter.unusedSimpArgs false
namespace Go.Pv
open Go Go.RowKit
def BdS:(r:Sy)→r.den→Prop
 | .pr a b,x=>BdS a x.1∧BdS b x.2
 | .li r,l=>List.length (α:=r.den) l≤2 ^ 47∧∀ y,List.Mem y (show List r.den from l)→BdS r y
 | .int _,_=>True
 | .bool,_=>True
 | .str,_=>True
 | .any,_=>True
theorem JJ:∀ {r:Sy} {x:r.den},(∀ t∈r.enc x,Bd t)→BdS r x
 | .int _,_,_=>trivial
 | .bool,_,_=>trivial
 | .str,_,_=>trivial
 | .any,_,_=>trivial
 | .pr a b,x,h=>⟨JJ fun t ht=>h t (by simp only[Sy.enc,List.mem_append];exact .inl ht),JJ fun t ht=>h t (by simp only[Sy.enc,List.mem_append];exact .inr ht)⟩
 | .li r,l,h=>by
  have:=(ARZ _ _).1 (h (.sl false (List.map r.enc l)) (by simp[Sy.enc]))
  exact ⟨by have h1:(List.map r.enc (show List r.den from l)).length≤2 ^ 47:=this.1;rw[List.length_map] at h1;exact h1,fun y hy=>JJ fun t ht=>this.2 (r.enc y) (List.mem_map.2 ⟨y,hy,rfl⟩) t ht⟩
theorem AEM {ag:Bool} {r:Sy} {x:r.den} (hw:(ag||r.w == 1)=true) (h:Bd (aB ag r x)):BdS r x:=by
 cases ag with
 | true=>exact JJ ((APU _).1 h)
 | false =>
  have hl:(r.enc x).length=1:=by rw[Sy.cX];simpa using hw
  obtain ⟨u,hu⟩:=List.length_eq_one_iff.1 hl
  refine JJ fun t ht=>?_
  rw[hu] at ht
  simp only[aB,hu,M5] at h
  rw[List.mem_singleton.1 ht];exact h
def zZ (s:Sh):Bool:=s.all fun x=>x.1||x.2.w == 1
theorem JY {ag:Bool} {r:Sy} (hw:(ag||r.w == 1)=true) {x y:r.den} (h:aB ag r x=aB ag r y):x=y:=by
 cases ag with
 | true=>simp only[aB,T.agg.injEq] at h;exact Sy.mB r _ _ h
 | false =>
  have hx:(r.enc x).length=1:=by rw[Sy.cX];simpa using hw
  have hy:(r.enc y).length=1:=by rw[Sy.cX];simpa using hw
  obtain ⟨u,hu⟩:=List.length_eq_one_iff.1 hx
  obtain ⟨v,hv⟩:=List.length_eq_one_iff.1 hy
  simp only[aB,hu,hv,M5] at h
  exact Sy.mB r _ _ (by rw[hu,hv,h])
theorem JZ:∀ {s:Sh},zZ s=true→∀ {x y:Sh.den s},Sh.bO s x=Sh.bO s y→x=y
 | [],_,_,_,_=>rfl
 | [a],h,x,y,he=>by
  simp only[Sh.bO,List.cons.injEq] at he
  exact JY (by simpa [zZ] using h) he.1
 | a::b::l,h,x,y,he=>by
  have h':(a.1||a.2.w == 1)=true∧zZ (b::l)=true:=by
   unfold zZ at h ⊢
   rw[List.all_cons,Bool.and_eq_true] at h
   exact h
  simp only[Sh.bO,List.cons.injEq] at he
  exact Prod.ext (JY h'.1 he.1) (JZ h'.2 he.2)
def cD:(s:Sh)→Sh.den s→Prop
 | [],_=>True
 | [a],x=>BdS a.2 x
 | a::b::l,x=>BdS a.2 x.1∧cD (b::l) x.2
theorem Q7:∀ {s:Sh},zZ s=true→∀ {x:Sh.den s},(∀ t∈Sh.bO s x,Bd t)→cD s x
 | [],_,_,_=>trivial
 | [a],h,x,hb=>AEM (by simpa [zZ] using h) (hb _ (by simp[Sh.bO]))
 | a::b::l,h,x,hb=>by
  have h':(a.1||a.2.w == 1)=true∧zZ (b::l)=true:=by
   unfold zZ at h ⊢
   rw[List.all_cons,Bool.and_eq_true] at h
   exact h
  exact ⟨AEM h'.1 (hb _ (by simp[Sh.bO])),Q7 h'.2 fun t ht=>hb t (by simp only[Sh.bO,List.mem_cons];exact .inr ht)⟩
open Classical in
noncomputable def gS {α:Type} (s:Sh) (sp:Sh.den s→Option α) (args:List T):Option α:=if h:∃ x,args=Sh.bO s x then sp (Classical.choose h) else none
theorem a7 {α:Type} {s:Sh} (hs:zZ s=true) {sp:Sh.den s→Option α} {args:List T} (x:Sh.den s) (h:args=Sh.bO s x):gS s sp args=sp x:=by
 unfold gS
 have he:∃ x,args=Sh.bO s x:=⟨x,h⟩
 rw[dif_pos he]
 congr 1
 exact JZ hs ((Classical.choose_spec he).symm.trans h)
theorem GY {α:Type} {s:Sh} {sp:Sh.den s→Option α} {args:List T} {r:α} (h:gS s sp args=some r):∃ x,args=Sh.bO s x∧sp x=some r:=by
 unfold gS at h
 split at h
 ·rename_i he
  exact ⟨_,Classical.choose_spec he,h⟩
 ·cases h
theorem aR {P:Program} {E:Env} {Hs:FuncId→Hint} (hE:aG P E) (hm:P.follows .mixedOrders=true) (hn:dG P=true) (hh:iU E) (k:Nat) {f:FuncId} {s:Sh} {sp:Sh.den s→Option T} (hex:∃ fn c,P.funcs[f]? = some fn∧fn.body=some c) (hs:zZ s=true)
  (h:∀ x r,sp x=some r→cD s x→bK aV P E Hs k f (Sh.bO s x) (fun y=>y=r)):aJ P f (gS s sp) :=
 O3 hE hm hn hh k hex fun args r hg hb=>by
  obtain ⟨x,rfl,hx⟩:=GY hg
  exact h x r hx (Q7 hs hb)
theorem AOI {P:Program} {E:Env} {Hs:FuncId→Hint} (hE:aG P E) (hm:P.follows .mixedOrders=true) (hn:dG P=true) (hh:iU E) (k:Nat) {f:FuncId} {s:Sh} {sp:Sh.den s→Option T} (hex:∃ fn c,P.funcs[f]? = some fn∧fn.body=some c) (hs:zZ s=true)
  (h:∀ x r,sp x=some r→cD s x→TN aV P E Hs k f (Sh.bO s x) (fun y=>y=r)):I9 P f (gS s sp) :=
 ALG hE hm hn hh k hex fun args r hg hb=>by
  obtain ⟨x,rfl,hx⟩:=GY hg
  exact h x r hx (Q7 hs hb)
open Classical in
theorem dF (A B:Prop):aC true A B=A:=propext ⟨fun h=>h,fun h=>h⟩
theorem dE (A B:Prop):aC false A B=B:=propext ⟨fun h=>h,fun h=>h⟩
theorem XX (b:Bool) (A B:Prop):aC b A B=if b=true then A else B:=by cases b<;>rfl
theorem AMF (b:Bool) (K:Prop):cL b K=(b=true∧K):=rfl
theorem cI (x:aT) (K:Prop):jT x x K=K:=by simp[jT]
theorem OL (S:Type) (A:(S→Prop)→Prop) (K:S→Prop):OK S A K=A K:=rfl
theorem RH {r:Sy} {l:List r.den} {i:Nat} {y:r.den}:(List.map r.enc l)[i]? = some (r.enc y)↔l[i]? = some y:=by
 rw[List.getElem?_map]
 cases h:l[i]? with
 | none=>simp
 | some z=>simp only[Option.map_some,Option.some.injEq];exact ⟨Sy.mB r _ _,fun e=>by rw[e]⟩
theorem AIX (r:Sy) (l:List r.den) (i:Int) (K:r.den→Prop):aQ r (List.map r.enc l) i K = ∃ y,0≤i∧l[i.toNat]? = some y∧K y:=by
 simp only[aQ,RH]
theorem aO {r:Sy} {l:List r.den} {k:Nat} (h:k<l.length) (K:r.den→Prop):aQ r (List.map r.enc l) (k:Int) K=K l[k]:=by
 rw[AIX]
 apply propext
 constructor
 ·rintro ⟨y,_,h1,h2⟩
  rw[Int.toNat_natCast,List.getElem?_eq_getElem h] at h1
  cases h1;exact h2
 ·exact fun hk=>⟨l[k],by omega,by rw[Int.toNat_natCast,List.getElem?_eq_getElem h],hk⟩
theorem S7 {r:Sy} {l:List r.den} {k:Nat} (h:k<l.length) (K:List T→Prop):AIW (List.map r.enc l) k K=K (r.enc l[k]):=by
 unfold AIW
 have e:(List.map r.enc l)[k]? = some (r.enc l[k]):=RH.2 (List.getElem?_eq_getElem h)
 apply propext
 constructor
 ·rintro ⟨y,h1,h2⟩
  rw[e] at h1;cases h1;exact h2
 ·exact fun hk=>⟨_,e,hk⟩
theorem nO {r:Sy} {l:List r.den} {k:Nat} (h:k<l.length) (K:r.den→Prop):l6 r (List.map r.enc l) k 0 K=K l[k]:=by
 unfold l6
 have e:(List.map r.enc l)[k]? = some (r.enc l[k]):=RH.2 (List.getElem?_eq_getElem h)
 have e2:((r.enc l[k]).drop 0).take r.w=r.enc l[k]:=by rw[List.drop_zero,←Sy.cX r l[k],List.take_length]
 apply propext
 constructor
 ·rintro ⟨row,y,h1,_,h2,h3⟩
  rw[e] at h1;cases h1
  rw[e2] at h2
  rw[Sy.mB r _ _ h2];exact h3
 ·exact fun hk=>⟨_,_,e,by rw[Sy.cX];omega,e2,hk⟩
theorem ABU:∀ {s:Sh},zZ s=true→∀ {x y:Sh.den s},Sh.enc s x=Sh.enc s y→x=y
 | [],_,_,_,_=>rfl
 | [a],h,x,y,he=>JY (by simpa [zZ] using h) he
 | a::b::l,h,x,y,he=>by
  simp only[Sh.enc,T.cA.injEq] at he
  exact JZ h he
theorem mJ {s:Sh} (hs:zZ s=true) (y:Sh.den s) (K:Sh.den s→Prop):aI s (some (Sh.enc s y)) K=K y:=by
 apply propext
 constructor
 ·rintro ⟨z,h1,h2⟩
  rw[ABU hs (Option.some.inj h1)];exact h2
 ·exact fun hk=>⟨y,rfl,hk⟩
theorem AHE {r:Sy} {a:Option (List (List T))} {l:List r.den} (h:a=some (List.map r.enc l)) (K:List r.den→Prop) (hk:K l):ACI r a K:=⟨l,h,hk⟩
theorem AMK {r:Sy} {l:List r.den} {k:Nat} (h:k<l.length):(List.map r.enc l).set k (r.enc l[k])=List.map r.enc l:=by
 have:(List.map r.enc l)[k]'(by simpa using h)=r.enc l[k]:=by simp
 rw[←this,List.set_getElem_self]
theorem jB {α:Type} {p:α→Bool} {l:List α} {k:Nat} (h:k<l.length):(l.drop k).find? p=if p l[k]=true then some l[k] else (l.drop (k+1)).find? p:=by
 rw[List.drop_eq_getElem_cons h,List.find?_cons]
 cases p l[k]<;>rfl
theorem aF {s:Sh} {a:Option T} {y:Sh.den s} {K:Sh.den s→Prop} (h:a=some (Sh.enc s y)) (hk:K y):aI s a K:=⟨y,h,hk⟩
def Sy.pure:Sy→Bool
 | .any=>false
 | .pr a b=>a.pure&&b.pure
 | .li r=>r.pure
 | _=>true
theorem zE:∀ {r:Sy} (x:r.den),r.pure=true→(r.enc x).map (T.canon 0)=r.enc x
 | .int _,_,_=>rfl
 | .bool,_,_=>rfl
 | .str,_,_=>rfl
 | .any,_,h=>by simp[Sy.pure] at h
 | .pr a b,x,h=>by
  simp only[Sy.pure,Bool.and_eq_true] at h
  simp only[Sy.enc,List.map_append,zE x.1 h.1,zE x.2 h.2]
 | .li r,_,_=>rfl
theorem JP {r:Sy} (h:r.pure=true) (l:List r.den):iQ (List.map r.enc l)=List.map r.enc l:=by
 unfold iQ
 rw[List.map_map]
 exact List.map_congr_left fun x _=>zE x h
theorem V9 (a b:List (List T)):iQ (a++b)=iQ a++iQ b:=by simp[iQ]
theorem eV {r:Sy} (h:r.pure=true) (l:List r.den) (K:List r.den→Prop):bH r (List.map r.enc l) K=K l:=by
 apply propext
 constructor
 ·rintro ⟨l',h1,h2⟩
  rw[JP h] at h1
  rw[map_inj (Sy.mB r) h1];exact h2
 ·exact fun hk=>⟨l,JP h l,hk⟩
theorem EE {r:Sy} (h:r.pure=true) (l:List r.den) (row:List T) (y:r.den) (hy:row.map (T.canon 0)=r.enc y) (K:List r.den→Prop):bH r (List.map r.enc l++[row]) K=K (l++[y]):=by
 have e:iQ (List.map r.enc l++[row])=List.map r.enc (l++[y]):=by
  rw[V9,JP h,List.map_append]
  simp[iQ,hy]
 apply propext
 constructor
 ·rintro ⟨l',h1,h2⟩
  rw[e] at h1
  rw[map_inj (Sy.mB r) h1];exact h2
 ·exact fun hk=>⟨_,e,hk⟩
theorem aS {S:Type} {F:(S→Prop)→S→Prop} {s:S} (n:Nat) (J:Nat→S→Prop) (h0:J 0 s) (step:∀ (X:S→Prop) (k:Nat) (s:S),k≤n→J k s→(∀ s',k<n→J (k+1) s'→X s')→F X s):a8 S F s:=by
 intro X hX
 have key:∀ m k s,n-k<m→k≤n→J k s→X s:=by
  intro m
  induction m with
  | zero=>intro k s h;omega
  | succ m ih=>intro k s hm hk hj;exact hX s (step X k s hk hj fun s' h1 h2=>ih (k+1) s' (by omega) (by omega) h2)
 exact key (n+1) 0 s (by omega) (by omega) h0
theorem zS {α:Type} {l:List α} {k:Nat}:decide ((k:Int)<(l.length:Int))=decide (k<l.length):=by simp
end Go.Pv
