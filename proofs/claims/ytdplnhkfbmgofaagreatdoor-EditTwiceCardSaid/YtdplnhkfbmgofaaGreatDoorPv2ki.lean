/-
  The symbolic executor, part i: copies of slices (a slice without elements may be nil or not).
-/
import Derived.Test.YtdplnhkfbmgofaaGreatDoorPv2kh
set_option linter.defProp false
set_option linter.unusedSimpArgs false
namespace Go.Pv
open Go Go.RowKit
inductive NR:T→T→Prop
 | same (t:T):NR t t
 | nil (f:Bool):NR (.sl f []) (.v (.slice none 0 0))
 | ne (f:Bool):NR (.sl f []) (.ne f)
 | isNe (f:Bool):NR (.ne f) (.ne f)
def DA:List T→List T→Prop
 | [],[]=>True
 | a::l,b::m=>NR a b∧(∀ f,b≠.sl f [])∧DA l m
 | _,_=>False
theorem cH.yF {w:World} {own:Nat→Prop} {t:T} {v:Value} (h:cH w own t v):∃ t',NR t t'∧(∀ f,t'≠.sl f [])∧cH w own t' v:=by
 by_cases hs:∃ f,t = .sl f []
 ·obtain ⟨f,rfl⟩:=hs
  cases h with
  | cI _ a cap hf hn =>
   cases a with
   | none=>have:=hn rfl;subst this;exact ⟨_,.nil f,by simp,.v _⟩
   | some a=>exact ⟨_,.ne f,by simp,.ne f a cap hf⟩
  | sl _ _ sz b o cap g h1 h2 h3 h4 h45 h5 h6 h7 h8=>exact ⟨_,.ne f,by simp,.ne f ⟨b,o,none⟩ cap (by simpa using h3)⟩
 ·exact ⟨t,.same t,fun f e=>hs ⟨f,e⟩,h⟩
theorem cT.yF {w:World} {own:Nat→Prop}:∀ {ts:List T} {l:List Value},cT (cH w own) ts l.toArray→∃ ts',DA ts ts'∧cT (cH w own) ts' l.toArray
 | [],l,h=>⟨[],trivial,h⟩
 | t::ts,[],h=>by have:=h.1;simp at this
 | t::ts,v::l,h=>by
  have h0:=h.2 0 (by simp)
  simp only[List.getElem_cons_zero] at h0
  have e0:((v::l).toArray.getD 0 undef)=v:=by simp[Array.getD]
  rw[e0] at h0
  obtain ⟨t',f1,f2,f3⟩:=h0.yF
  have ht:cT (cH w own) ts l.toArray:=⟨by have:=h.1;simpa using this,fun i hi=>by
   have:=h.2 (i+1) (by simpa using hi)
   simpa [Array.getD_eq_getD_getElem?] using this⟩
  obtain ⟨ts',g1,g2⟩:=cT.yF ht
  refine ⟨t'::ts',⟨f1,f2,g1⟩,?_⟩
  have:=(cT.one f3).append g2
  simpa using this
theorem aN.yF {P:Program} {f:FuncId} {g g':List T→Option T} (h:aN P f g') (hg:∀ args r,g args=some r→∀ args',DA args args'→g' args'=some r):aN P f g :=
 ⟨h.entry,fun w own args vs r hG ho ha hr=>by
  obtain ⟨l⟩:=vs
  obtain ⟨args',h1,h2⟩:=cT.yF ha
  exact h.calls w own args' _ r hG ho h2 (hg args r hr args' h1)⟩
theorem eE.yF {P:Program} {f:FuncId} {g g':List T→Option (List (List T))} (h:eE P f g') (hg:∀ args r,g args=some r→∀ args',DA args args'→g' args'=some r):eE P f g :=
 ⟨h.entry,fun w own args vs r hG ho ha hr=>by
  obtain ⟨l⟩:=vs
  obtain ⟨args',h1,h2⟩:=cT.yF ha
  exact h.calls w own args' _ r hG ho h2 (hg args r hr args' h1)⟩
def oC (r:Sy) (b:Nat) (l:List r.den):Option (List (List T)):=match decide (l.length*b≤140737488355328)&&decide (l.length≤140737488355328) with
 | true=>some (List.map r.enc l)
 | false=>none
def eB (r:Sy) (b:Nat) (l:List r.den):Option T:=(oC r b l).map (.sl false)
theorem AJS {r:Sy} {l:List r.den} {args':List T} (h:DA [T.sl false (List.map r.enc l)] args') :
  (l=[]∧(args'=[.v (.slice none 0 0)]∨∃ f,args'=[.ne f]))∨∃ a m,l=a::m∧args'=[.sl false (r.enc a::List.map r.enc m)]:=by
 match args',h with
 | [],h=>exact h.elim
 | [b],h =>
  obtain ⟨h1,h2,_⟩:=h
  cases l with
  | nil =>
   simp only[List.map_nil] at h1
   generalize ht:T.sl false []=t at h1
   cases h1 with
   | same=>subst ht;exact absurd rfl (h2 false)
   | nil f=>exact .inl ⟨rfl,.inl rfl⟩
   | ne f=>exact .inl ⟨rfl,.inr ⟨f,rfl⟩⟩
   | isNe f=>cases ht
  | cons a m =>
   simp only[List.map_cons] at h1
   generalize ht:T.sl false (r.enc a::List.map r.enc m)=t at h1
   cases h1 with
   | same=>exact .inr ⟨a,m,rfl,by rw[ht]⟩
   | nil f=>cases ht
   | ne f=>cases ht
   | isNe f=>cases ht
 | _::_::_,h=>exact h.2.2.elim
theorem uR (r:Sy) (l:List r.den):gC r.w (List.map r.enc l)=true:=by
 simp only[gC,List.all_map,List.all_eq_true,Function.comp_apply,decide_eq_true_eq]
 exact fun x _=>Sy.dD r x
section
variable {P : Program} {f : FuncId} {r : Sy} {b : Nat}
def ZO (P:Program) (f:FuncId) (z b:Nat):Prop :=
 (∀ R,MY bZ P (Env.of []) (fun _=>aX) 1 f [T.v (.slice none 0 0)] R=R []) ∧
 (∀ fl R,MY bZ P (Env.of []) (fun _=>aX) 1 f [T.ne fl] R=bS (gC z ([]:List (List T))&&true&&decide (0≤140737488355328)&&decide (([]:List (List T)).length≤140737488355328)) (R [])) ∧
 (∀ fl a rows R,MY bZ P (Env.of []) (fun _=>aX) 1 f [T.sl fl (a::rows)] R=bS (gC z (a::rows)&&true&&decide ((a::rows).length*b≤140737488355328)&&decide ((a::rows).length≤140737488355328)) (R (a::rows)))
def P9 (P:Program) (f:FuncId) (z b:Nat):Prop :=
 (∀ R,dS bZ P (Env.of []) (fun _=>aX) 1 f [T.v (.slice none 0 0)] R=R (.sl false [])) ∧
 (∀ fl R,dS bZ P (Env.of []) (fun _=>aX) 1 f [T.ne fl] R=bS (gC z ([]:List (List T))&&true&&decide (0≤140737488355328)&&decide (([]:List (List T)).length≤140737488355328)) (R (.sl false []))) ∧
 (∀ fl a rows R,dS bZ P (Env.of []) (fun _=>aX) 1 f [T.sl fl (a::rows)] R=bS (gC z (a::rows)&&true&&decide ((a::rows).length*b≤140737488355328)&&decide ((a::rows).length≤140737488355328)) (R (.sl false (a::rows))))
def kZ (z b:Nat):List T→Option (List (List T))
 | [.v (.slice none 0 0)]=>some []
 | [.ne _]=>some []
 | [.sl _ (a::rows)]=>match gC z (a::rows)&&true&&decide ((a::rows).length*b≤140737488355328)&&decide ((a::rows).length≤140737488355328) with
  | true=>some (a::rows)
  | false=>none
 | _=>none
theorem KL {l:List r.den} {rows:List (List T)} (h:oC r b l=some rows) {args':List T} (hf:DA (Sh.lW [(false,.li r)] l) args'):kZ r.w b args'=some rows:=by
 unfold oC at h
 split at h
 ·rename_i hb
  cases h
  simp only[Bool.and_eq_true,decide_eq_true_eq] at hb
  rcases AJS (r:=r) (l:=l) hf with ⟨rfl,rfl|⟨fl,rfl⟩⟩|⟨a,m,rfl,rfl⟩
  ·rfl
  ·rfl
  ·have h1:gC r.w (r.enc a::List.map r.enc m)=true:=uR r (a::m)
   have h2:(r.enc a::List.map r.enc m).length=(a::m).length:=by simp
   simp only[kZ,h1,h2,Bool.true_and,hb.1,hb.2,decide_true,List.map_cons]
 ·cases h
theorem AJI (hm:P.follows .mixedOrders=true) (hn:cM P=true) (hex:∃ fn c,P.funcs[f]? = some fn∧fn.body=some c) (h:ZO P f r.w b):eE P f (gS [(false,.li r)] (oC r b)):=by
 refine eE.yF (g':=kZ r.w b) (KI (Hs:=fun _=>aX) (aR.nil _) hm hn (aL (l:=[]) rfl) 1 hex fun args rows hg _=>?_) fun args rows hg args' hf=>?_
 ·unfold kZ at hg
  split at hg
  ·cases hg;rw[h.1]
  ·cases hg;rw[h.2.1];exact ⟨by simp[gC],rfl⟩
  ·rename_i fl a rows'
   split at hg
   ·rename_i hb
    cases hg;rw[h.2.2];exact ⟨hb,rfl⟩
   ·cases hg
  ·cases hg
 ·obtain ⟨l,rfl,hl⟩:=BD hg
  exact KL hl hf
theorem DI (hm:P.follows .mixedOrders=true) (hn:cM P=true) (hex:∃ fn c,P.funcs[f]? = some fn∧fn.body=some c) (h:P9 P f r.w b):aN P f (gS [(false,.li r)] (eB r b)):=by
 refine aN.yF (g':=fun args=>(kZ r.w b args).map (.sl false)) (EI (Hs:=fun _=>aX) (aR.nil _) hm hn (aL (l:=[]) rfl) 1 hex fun args rows hg _=>?_) fun args rows hg args' hf=>?_
 ·simp only[Option.map_eq_some_iff] at hg
  obtain ⟨rs,hg,rfl⟩:=hg
  unfold kZ at hg
  split at hg
  ·cases hg;rw[h.1]
  ·cases hg;rw[h.2.1];exact ⟨by simp[gC],rfl⟩
  ·rename_i fl a rows'
   split at hg
   ·rename_i hb
    cases hg;rw[h.2.2];exact ⟨hb,rfl⟩
   ·cases hg
  ·cases hg
 ·obtain ⟨l,rfl,hl⟩:=BD hg
  simp only[eB,Option.map_eq_some_iff] at hl
  obtain ⟨rs,hl,rfl⟩:=hl
  show Option.map (T.sl false) (kZ r.w b args')=_
  rw[KL hl hf];rfl
end
end Go.Pv
