/-
  The symbolic executor, part i: copies of slices (a slice without elements may be nil or not).
-/
import Derived.Test.YtcnfagefgkblkaaGreatDoorVskh
set_option linter.defProp false
set_option linter.unusedSimpArgs false
namespace Go.Pv
open Go Go.RowKit
inductive OM:T→T→Prop
 | same (t:T):OM t t
 | nil (f:Bool):OM (.sl f []) (.v (.slice none 0 0))
 | ne (f:Bool):OM (.sl f []) (.ne f)
 | isNe (f:Bool):OM (.ne f) (.ne f)
def EG:List T→List T→Prop
 | [],[]=>True
 | a::l,b::m=>OM a b∧(∀ f,b≠.sl f [])∧EG l m
 | _,_=>False
theorem cE.yZ {w:World} {own:Nat→Prop} {t:T} {v:Value} (h:cE w own t v):∃ t',OM t t'∧(∀ f,t'≠.sl f [])∧cE w own t' v:=by
 by_cases hs:∃ f,t = .sl f []
 ·obtain ⟨f,rfl⟩:=hs
  cases h with
  | cH _ a cap hf hn =>
   cases a with
   | none=>have:=hn rfl;subst this;exact ⟨_,.nil f,by simp,.v _⟩
   | some a=>exact ⟨_,.ne f,by simp,.ne f a cap hf⟩
  | sl _ _ sz b o cap g h1 h2 h3 h4 h45 h5 h6 h7 h8=>exact ⟨_,.ne f,by simp,.ne f ⟨b,o,none⟩ cap (by simpa using h3)⟩
 ·exact ⟨t,.same t,fun f e=>hs ⟨f,e⟩,h⟩
theorem cT.yZ {w:World} {own:Nat→Prop}:∀ {ts:List T} {l:List Value},cT (cE w own) ts l.toArray→∃ ts',EG ts ts'∧cT (cE w own) ts' l.toArray
 | [],l,h=>⟨[],trivial,h⟩
 | t::ts,[],h=>by have:=h.1;simp at this
 | t::ts,v::l,h=>by
  have h0:=h.2 0 (by simp)
  simp only[List.getElem_cons_zero] at h0
  have e0:((v::l).toArray.getD 0 undef)=v:=by simp[Array.getD]
  rw[e0] at h0
  obtain ⟨t',f1,f2,f3⟩:=h0.yZ
  have ht:cT (cE w own) ts l.toArray:=⟨by have:=h.1;simpa using this,fun i hi=>by
   have:=h.2 (i+1) (by simpa using hi)
   simpa [Array.getD_eq_getD_getElem?] using this⟩
  obtain ⟨ts',g1,g2⟩:=cT.yZ ht
  refine ⟨t'::ts',⟨f1,f2,g1⟩,?_⟩
  have:=(cT.one f3).append g2
  simpa using this
theorem aN.yZ {P:Program} {f:FuncId} {g g':List T→Option T} (h:aN P f g') (hg:∀ args r,g args=some r→∀ args',EG args args'→g' args'=some r):aN P f g :=
 ⟨h.entry,fun w own args vs r hG ho ha hr=>by
  obtain ⟨l⟩:=vs
  obtain ⟨args',h1,h2⟩:=cT.yZ ha
  exact h.calls w own args' _ r hG ho h2 (hg args r hr args' h1)⟩
theorem eH.yZ {P:Program} {f:FuncId} {g g':List T→Option (List (List T))} (h:eH P f g') (hg:∀ args r,g args=some r→∀ args',EG args args'→g' args'=some r):eH P f g :=
 ⟨h.entry,fun w own args vs r hG ho ha hr=>by
  obtain ⟨l⟩:=vs
  obtain ⟨args',h1,h2⟩:=cT.yZ ha
  exact h.calls w own args' _ r hG ho h2 (hg args r hr args' h1)⟩
def oL (r:Sy) (b:Nat) (l:List r.den):Option (List (List T)):=match decide (l.length*b≤140737488355328)&&decide (l.length≤140737488355328) with
 | true=>some (List.map r.enc l)
 | false=>none
def cO (r:Sy) (b:Nat) (l:List r.den):Option T:=(oL r b l).map (.sl false)
theorem AL7 {r:Sy} {l:List r.den} {args':List T} (h:EG [T.sl false (List.map r.enc l)] args') :
  (l=[]∧(args'=[.v (.slice none 0 0)]∨∃ f,args'=[.ne f]))∨∃ a m,l=a::m∧args'=[.sl false (r.enc a::List.map r.enc m)]:=by
 match args',h with
 | [],h=>exact h.elim
 | [b],h =>
  obtain ⟨h1,h2,_⟩:=h
  cases l with
  | nil =>
   simp only[List.map_nil] at h1
   generalize ht:T.sl false []=t at h1
   cases h1 with
   | same=>subst ht;exact absurd rfl (h2 false)
   | nil f=>exact .inl ⟨rfl,.inl rfl⟩
   | ne f=>exact .inl ⟨rfl,.inr ⟨f,rfl⟩⟩
   | isNe f=>cases ht
  | cons a m =>
   simp only[List.map_cons] at h1
   generalize ht:T.sl false (r.enc a::List.map r.enc m)=t at h1
   cases h1 with
   | same=>exact .inr ⟨a,m,rfl,by rw[ht]⟩
   | nil f=>cases ht
   | ne f=>cases ht
   | isNe f=>cases ht
 | _::_::_,h=>exact h.2.2.elim
theorem u6 (r:Sy) (l:List r.den):fS r.w (List.map r.enc l)=true:=by
 simp only[fS,List.all_map,List.all_eq_true,Function.comp_apply,decide_eq_true_eq]
 exact fun x _=>Sy.cP r x
section
variable {P : Program} {f : FuncId} {r : Sy} {b : Nat}
def AA6 (P:Program) (f:FuncId) (z b:Nat):Prop :=
 (∀ R,NP bR P (Env.of []) (fun _=>aX) 1 f [T.v (.slice none 0 0)] R=R []) ∧
 (∀ fl R,NP bR P (Env.of []) (fun _=>aX) 1 f [T.ne fl] R=bN (fS z ([]:List (List T))&&true&&decide (0≤140737488355328)&&decide (([]:List (List T)).length≤140737488355328)) (R [])) ∧
 (∀ fl a rows R,NP bR P (Env.of []) (fun _=>aX) 1 f [T.sl fl (a::rows)] R=bN (fS z (a::rows)&&true&&decide ((a::rows).length*b≤140737488355328)&&decide ((a::rows).length≤140737488355328)) (R (a::rows)))
def uY (P:Program) (f:FuncId) (z b:Nat):Prop :=
 (∀ R,dH bR P (Env.of []) (fun _=>aX) 1 f [T.v (.slice none 0 0)] R=R (.sl false [])) ∧
 (∀ fl R,dH bR P (Env.of []) (fun _=>aX) 1 f [T.ne fl] R=bN (fS z ([]:List (List T))&&true&&decide (0≤140737488355328)&&decide (([]:List (List T)).length≤140737488355328)) (R (.sl false []))) ∧
 (∀ fl a rows R,dH bR P (Env.of []) (fun _=>aX) 1 f [T.sl fl (a::rows)] R=bN (fS z (a::rows)&&true&&decide ((a::rows).length*b≤140737488355328)&&decide ((a::rows).length≤140737488355328)) (R (.sl false (a::rows))))
def lR (z b:Nat):List T→Option (List (List T))
 | [.v (.slice none 0 0)]=>some []
 | [.ne _]=>some []
 | [.sl _ (a::rows)]=>match fS z (a::rows)&&true&&decide ((a::rows).length*b≤140737488355328)&&decide ((a::rows).length≤140737488355328) with
  | true=>some (a::rows)
  | false=>none
 | _=>none
theorem LI {l:List r.den} {rows:List (List T)} (h:oL r b l=some rows) {args':List T} (hf:EG (Sh.iZ [(false,.li r)] l) args'):lR r.w b args'=some rows:=by
 unfold oL at h
 split at h
 ·rename_i hb
  cases h
  simp only[Bool.and_eq_true,decide_eq_true_eq] at hb
  rcases AL7 (r:=r) (l:=l) hf with ⟨rfl,rfl|⟨fl,rfl⟩⟩|⟨a,m,rfl,rfl⟩
  ·rfl
  ·rfl
  ·have h1:fS r.w (r.enc a::List.map r.enc m)=true:=u6 r (a::m)
   have h2:(r.enc a::List.map r.enc m).length=(a::m).length:=by simp
   simp only[lR,h1,h2,Bool.true_and,hb.1,hb.2,decide_true,List.map_cons]
 ·cases h
theorem ALV (hm:P.follows .mixedOrders=true) (hn:cD P=true) (hex:∃ fn c,P.funcs[f]? = some fn∧fn.body=some c) (h:AA6 P f r.w b):eH P f (gS [(false,.li r)] (oL r b)):=by
 refine eH.yZ (g':=lR r.w b) (LD (Hs:=fun _=>aX) (aQ.nil _) hm hn (aL (l:=[]) rfl) 1 hex fun args rows hg _=>?_) fun args rows hg args' hf=>?_
 ·unfold lR at hg
  split at hg
  ·cases hg;rw[h.1]
  ·cases hg;rw[h.2.1];exact ⟨by simp[fS],rfl⟩
  ·rename_i fl a rows'
   split at hg
   ·rename_i hb
    cases hg;rw[h.2.2];exact ⟨hb,rfl⟩
   ·cases hg
  ·cases hg
 ·obtain ⟨l,rfl,hl⟩:=xF hg
  exact LI hl hf
theorem mH (hm:P.follows .mixedOrders=true) (hn:cD P=true) (hex:∃ fn c,P.funcs[f]? = some fn∧fn.body=some c) (h:uY P f r.w b):aN P f (gS [(false,.li r)] (cO r b)):=by
 refine aN.yZ (g':=fun args=>(lR r.w b args).map (.sl false)) (FR (Hs:=fun _=>aX) (aQ.nil _) hm hn (aL (l:=[]) rfl) 1 hex fun args rows hg _=>?_) fun args rows hg args' hf=>?_
 ·simp only[Option.map_eq_some_iff] at hg
  obtain ⟨rs,hg,rfl⟩:=hg
  unfold lR at hg
  split at hg
  ·cases hg;rw[h.1]
  ·cases hg;rw[h.2.1];exact ⟨by simp[fS],rfl⟩
  ·rename_i fl a rows'
   split at hg
   ·rename_i hb
    cases hg;rw[h.2.2];exact ⟨hb,rfl⟩
   ·cases hg
  ·cases hg
 ·obtain ⟨l,rfl,hl⟩:=xF hg
  simp only[cO,Option.map_eq_some_iff] at hl
  obtain ⟨rs,hl,rfl⟩:=hl
  show Option.map (T.sl false) (lR r.w b args')=_
  rw[LI hl hf];rfl
end
end Go.Pv
