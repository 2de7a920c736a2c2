/-
  The symbolic executor, part i: copies of slices (a slice without elements may be nil or not).
-/
import Derived.Test.YtjledgajjgkbhaaGreatDoorVapkh
set_option linter.defProp false
set_option linter.unusedSimpArgs false
namespace Go.Pv
open Go Go.RowKit
inductive RO:T→T→Prop
 | same (t:T):RO t t
 | nil (f:Bool):RO (.sl f []) (.v (.slice none 0 0))
 | ne (f:Bool):RO (.sl f []) (.ne f)
 | isNe (f:Bool):RO (.ne f) (.ne f)
def G5:List T→List T→Prop
 | [],[]=>True
 | a::l,b::m=>RO a b∧(∀ f,b≠.sl f [])∧G5 l m
 | _,_=>False
theorem cN.A9 {w:World} {own:Nat→Prop} {t:T} {v:Value} (h:cN w own t v):∃ t',RO t t'∧(∀ f,t'≠.sl f [])∧cN w own t' v:=by
 by_cases hs:∃ f,t = .sl f []
 ·obtain ⟨f,rfl⟩:=hs
  cases h with
  | cQ _ a cap hf hn =>
   cases a with
   | none=>have:=hn rfl;subst this;exact ⟨_,.nil f,by simp,.v _⟩
   | some a=>exact ⟨_,.ne f,by simp,.ne f a cap hf⟩
  | sl _ _ sz b o cap g h1 h2 h3 h4 h45 h5 h6 h7 h8=>exact ⟨_,.ne f,by simp,.ne f ⟨b,o,none⟩ cap (by simpa using h3)⟩
 ·exact ⟨t,.same t,fun f e=>hs ⟨f,e⟩,h⟩
theorem cZ.A9 {w:World} {own:Nat→Prop}:∀ {ts:List T} {l:List Value},cZ (cN w own) ts l.toArray→∃ ts',G5 ts ts'∧cZ (cN w own) ts' l.toArray
 | [],l,h=>⟨[],trivial,h⟩
 | t::ts,[],h=>by have:=h.1;simp at this
 | t::ts,v::l,h=>by
  have h0:=h.2 0 (by simp)
  simp only[List.getElem_cons_zero] at h0
  have e0:((v::l).toArray.getD 0 undef)=v:=by simp[Array.getD]
  rw[e0] at h0
  obtain ⟨t',f1,f2,f3⟩:=h0.A9
  have ht:cZ (cN w own) ts l.toArray:=⟨by have:=h.1;simpa using this,fun i hi=>by
   have:=h.2 (i+1) (by simpa using hi)
   simpa [Array.getD_eq_getD_getElem?] using this⟩
  obtain ⟨ts',g1,g2⟩:=cZ.A9 ht
  refine ⟨t'::ts',⟨f1,f2,g1⟩,?_⟩
  have:=(cZ.one f3).append g2
  simpa using this
theorem aN.A9 {P:Program} {f:FuncId} {g g':List T→Option T} (h:aN P f g') (hg:∀ args r,g args=some r→∀ args',G5 args args'→g' args'=some r):aN P f g :=
 ⟨h.entry,fun w own args vs r hG ho ha hr=>by
  obtain ⟨l⟩:=vs
  obtain ⟨args',h1,h2⟩:=cZ.A9 ha
  exact h.calls w own args' _ r hG ho h2 (hg args r hr args' h1)⟩
theorem e6.A9 {P:Program} {f:FuncId} {g g':List T→Option (List (List T))} (h:e6 P f g') (hg:∀ args r,g args=some r→∀ args',G5 args args'→g' args'=some r):e6 P f g :=
 ⟨h.entry,fun w own args vs r hG ho ha hr=>by
  obtain ⟨l⟩:=vs
  obtain ⟨args',h1,h2⟩:=cZ.A9 ha
  exact h.calls w own args' _ r hG ho h2 (hg args r hr args' h1)⟩
def pH (r:Sy) (b:Nat) (l:List r.den):Option (List (List T)):=match decide (l.length*b≤140737488355328)&&decide (l.length≤140737488355328) with
 | true=>some (List.map r.enc l)
 | false=>none
def dW (r:Sy) (b:Nat) (l:List r.den):Option T:=(pH r b l).map (.sl false)
theorem APU {r:Sy} {l:List r.den} {args':List T} (h:G5 [T.sl false (List.map r.enc l)] args') :
  (l=[]∧(args'=[.v (.slice none 0 0)]∨∃ f,args'=[.ne f]))∨∃ a m,l=a::m∧args'=[.sl false (r.enc a::List.map r.enc m)]:=by
 match args',h with
 | [],h=>exact h.elim
 | [b],h =>
  obtain ⟨h1,h2,_⟩:=h
  cases l with
  | nil =>
   simp only[List.map_nil] at h1
   generalize ht:T.sl false []=t at h1
   cases h1 with
   | same=>subst ht;exact absurd rfl (h2 false)
   | nil f=>exact .inl ⟨rfl,.inl rfl⟩
   | ne f=>exact .inl ⟨rfl,.inr ⟨f,rfl⟩⟩
   | isNe f=>cases ht
  | cons a m =>
   simp only[List.map_cons] at h1
   generalize ht:T.sl false (r.enc a::List.map r.enc m)=t at h1
   cases h1 with
   | same=>exact .inr ⟨a,m,rfl,by rw[ht]⟩
   | nil f=>cases ht
   | ne f=>cases ht
   | isNe f=>cases ht
 | _::_::_,h=>exact h.2.2.elim
theorem sS (r:Sy) (l:List r.den):fE r.w (List.map r.enc l)=true:=by
 simp only[fE,List.all_map,List.all_eq_true,Function.comp_apply,decide_eq_true_eq]
 exact fun x _=>Sy.cP r x
section
variable {P : Program} {f : FuncId} {r : Sy} {b : Nat}
def AEZ (P:Program) (f:FuncId) (z b:Nat):Prop :=
 (∀ R,QO bR P (Env.of []) (fun _=>bI) 1 f [T.v (.slice none 0 0)] R=R []) ∧
 (∀ fl R,QO bR P (Env.of []) (fun _=>bI) 1 f [T.ne fl] R=bQ (fE z ([]:List (List T))&&true&&decide (0≤140737488355328)&&decide (([]:List (List T)).length≤140737488355328)) (R [])) ∧
 (∀ fl a rows R,QO bR P (Env.of []) (fun _=>bI) 1 f [T.sl fl (a::rows)] R=bQ (fE z (a::rows)&&true&&decide ((a::rows).length*b≤140737488355328)&&decide ((a::rows).length≤140737488355328)) (R (a::rows)))
def LR (P:Program) (f:FuncId) (z b:Nat):Prop :=
 (∀ R,dY bR P (Env.of []) (fun _=>bI) 1 f [T.v (.slice none 0 0)] R=R (.sl false [])) ∧
 (∀ fl R,dY bR P (Env.of []) (fun _=>bI) 1 f [T.ne fl] R=bQ (fE z ([]:List (List T))&&true&&decide (0≤140737488355328)&&decide (([]:List (List T)).length≤140737488355328)) (R (.sl false []))) ∧
 (∀ fl a rows R,dY bR P (Env.of []) (fun _=>bI) 1 f [T.sl fl (a::rows)] R=bQ (fE z (a::rows)&&true&&decide ((a::rows).length*b≤140737488355328)&&decide ((a::rows).length≤140737488355328)) (R (.sl false (a::rows))))
def mO (z b:Nat):List T→Option (List (List T))
 | [.v (.slice none 0 0)]=>some []
 | [.ne _]=>some []
 | [.sl _ (a::rows)]=>match fE z (a::rows)&&true&&decide ((a::rows).length*b≤140737488355328)&&decide ((a::rows).length≤140737488355328) with
  | true=>some (a::rows)
  | false=>none
 | _=>none
theorem OC {l:List r.den} {rows:List (List T)} (h:pH r b l=some rows) {args':List T} (hf:G5 (Sh.iH [(false,.li r)] l) args'):mO r.w b args'=some rows:=by
 unfold pH at h
 split at h
 ·rename_i hb
  cases h
  simp only[Bool.and_eq_true,decide_eq_true_eq] at hb
  rcases APU (r:=r) (l:=l) hf with ⟨rfl,rfl|⟨fl,rfl⟩⟩|⟨a,m,rfl,rfl⟩
  ·rfl
  ·rfl
  ·have h1:fE r.w (r.enc a::List.map r.enc m)=true:=sS r (a::m)
   have h2:(r.enc a::List.map r.enc m).length=(a::m).length:=by simp
   simp only[mO,h1,h2,Bool.true_and,hb.1,hb.2,decide_true,List.map_cons]
 ·cases h
theorem APH (hm:P.follows .mixedOrders=true) (hn:cE P=true) (hex:∃ fn c,P.funcs[f]? = some fn∧fn.body=some c) (h:AEZ P f r.w b):e6 P f (gS [(false,.li r)] (pH r b)):=by
 refine e6.A9 (g':=mO r.w b) (N9 (Hs:=fun _=>bI) (aT.nil _) hm hn (aL (l:=[]) rfl) 1 hex fun args rows hg _=>?_) fun args rows hg args' hf=>?_
 ·unfold mO at hg
  split at hg
  ·cases hg;rw[h.1]
  ·cases hg;rw[h.2.1];exact ⟨by simp[fE],rfl⟩
  ·rename_i fl a rows'
   split at hg
   ·rename_i hb
    cases hg;rw[h.2.2];exact ⟨hb,rfl⟩
   ·cases hg
  ·cases hg
 ·obtain ⟨l,rfl,hl⟩:=mQ hg
  exact OC hl hf
theorem yY (hm:P.follows .mixedOrders=true) (hn:cE P=true) (hex:∃ fn c,P.funcs[f]? = some fn∧fn.body=some c) (h:LR P f r.w b):aN P f (gS [(false,.li r)] (dW r b)):=by
 refine aN.A9 (g':=fun args=>(mO r.w b args).map (.sl false)) (H7 (Hs:=fun _=>bI) (aT.nil _) hm hn (aL (l:=[]) rfl) 1 hex fun args rows hg _=>?_) fun args rows hg args' hf=>?_
 ·simp only[Option.map_eq_some_iff] at hg
  obtain ⟨rs,hg,rfl⟩:=hg
  unfold mO at hg
  split at hg
  ·cases hg;rw[h.1]
  ·cases hg;rw[h.2.1];exact ⟨by simp[fE],rfl⟩
  ·rename_i fl a rows'
   split at hg
   ·rename_i hb
    cases hg;rw[h.2.2];exact ⟨hb,rfl⟩
   ·cases hg
  ·cases hg
 ·obtain ⟨l,rfl,hl⟩:=mQ hg
  simp only[dW,Option.map_eq_some_iff] at hl
  obtain ⟨rs,hl,rfl⟩:=hl
  show Option.map (T.sl false) (mO r.w b args')=_
  rw[OC hl hf];rfl
end
end Go.Pv
