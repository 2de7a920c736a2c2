/-
  The symbolic executor, part i: copies of slices (a slice without elements may be nil or not).
-/
import Derived.Test.YtcnfagefgkblkaaGreatDoorVrkh
set_option linter.defProp false
set_option linter.unusedSimpArgs false
namespace Go.Pv
open Go Go.RowKit
inductive TA:T->T->Prop
 | same (t:T):TA t t
 | nil (f:Bool):TA (.sl f []) (.v (.slice none 0 0))
 | ne (f:Bool):TA (.sl f []) (.ne f)
 | isNe (f:Bool):TA (.ne f) (.ne f)
def HV:List T->List T->Prop
 | [],[]=>True
 | a::l,b::m=>TA a b/\(∀ f,b≠.sl f [])/\HV l m
 | _,_=>False
def cO.CM {w:World} {own:Nat->Prop} {t:T} {v:Value} (h:cO w own t v):∃ t',TA t t'/\(∀ f,t'≠.sl f [])/\cO w own t' v:=by
 by_cases hs:∃ f,t = .sl f []
 ·obtain ⟨f,rfl⟩:=hs;cases h with
  | cS _ a cap hf hn =>
   cases a with
   | none=>have:=hn rfl;subst this;exact ⟨_,.nil f,by simp,.v _⟩
   | some a=>exact ⟨_,.ne f,by simp,.ne f a cap hf⟩
  | sl _ _ sz b o cap g h1 h2 h3 h4 h45 h5 h6 h7 h8=>exact ⟨_,.ne f,by simp,.ne f ⟨b,o,none⟩ cap (by simpa using h3)⟩
 ·exact ⟨t,.same t,λf e=>hs ⟨f,e⟩,h⟩
def dF.CM {w:World} {own:Nat->Prop}:∀ {ts:List T} {l:List Value},dF (cO w own) ts l.toArray->∃ ts',HV ts ts'/\dF (cO w own) ts' l.toArray
 | [],l,h=>⟨[],trivial,h⟩
 | t::ts,[],h=>by have:=h.1;simp at this
 | t::ts,v::l,h=>by
  have h0:=h.2 0 (by simp);simp only[List.getElem_cons_zero] at h0;have e0:((v::l).toArray.getD 0 undef)=v:=by simp[Array.getD]
  rw[e0] at h0;obtain ⟨t',f1,f2,f3⟩:=h0.CM;have ht:dF (cO w own) ts l.toArray:=⟨by have:=h.1;simpa using this,λi hi=>by
   have:=h.2 (i+1) (by simpa using hi);simpa [Array.getD_eq_getD_getElem?] using this⟩
  obtain ⟨ts',g1,g2⟩:=dF.CM ht;refine ⟨t'::ts',⟨f1,f2,g1⟩,?_⟩;have:=(dF.one f3).append g2;simpa using this
variable {P:Program}
def aM.CM {f:FuncId} {g g':List T->Option T} (h:aM P f g') (hg:∀ args r,g args=some r->∀ args',HV args args'->g' args'=some r):aM P f g :=
 ⟨h.entry,λw own args vs r hG ho ha hr=>by
  obtain ⟨l⟩:=vs;obtain ⟨args',h1,h2⟩:=dF.CM ha;exact h.calls w own args' _ r hG ho h2 (hg args r hr args' h1)⟩
def fE.CM {f:FuncId} {g g':List T->Option (List (List T))} (h:fE P f g') (hg:∀ args r,g args=some r->∀ args',HV args args'->g' args'=some r):fE P f g :=
 ⟨h.entry,λw own args vs r hG ho ha hr=>by
  obtain ⟨l⟩:=vs;obtain ⟨args',h1,h2⟩:=dF.CM ha;exact h.calls w own args' _ r hG ho h2 (hg args r hr args' h1)⟩
def pW (r:Sy) (b:Nat) (l:List r.den):Option (List (List T)):=match decide (l.length*b<=140737488355328)&&decide (l.length<=140737488355328) with
 | true=>some (List.map r.enc l)
 | false=>none
def cZ (r:Sy) (b:Nat) (l:List r.den):Option T:=(pW r b l).map (.sl false)
variable {args':List T}
def ATV {r:Sy} {l:List r.den} (h:HV [T.sl false (List.map r.enc l)] args') :
  (l=[]/\(args'=[.v (.slice none 0 0)]\/∃ f,args'=[.ne f]))\/∃ a m,l=a::m/\args'=[.sl false (r.enc a::List.map r.enc m)]:=by
 match args',h with
 | [],h=>exact h.elim
 | [b],h =>
  obtain ⟨h1,h2,_⟩:=h;cases l with
  | nil =>
   simp only[List.map_nil] at h1;generalize ht:T.sl false []=t at h1;cases h1 with
   | same=>subst ht;exact absurd rfl (h2 false)
   | nil f=>exact .inl ⟨rfl,.inl rfl⟩
   | ne f=>exact .inl ⟨rfl,.inr ⟨f,rfl⟩⟩
   | isNe f=>cases ht
  | cons a m =>
   simp only[List.map_cons] at h1;generalize ht:T.sl false (r.enc a::List.map r.enc m)=t at h1;cases h1 with
   | same=>exact .inr ⟨a,m,rfl,by rw[ht]⟩
   | nil f=>cases ht
   | ne f=>cases ht
   | isNe f=>cases ht
 | _::_::_,h=>exact h.2.2.elim
def tQ (r:Sy) (l:List r.den):eP r.w (List.map r.enc l)=true:=by
 simp only[eP,List.all_map,List.all_eq_true,Function.comp_apply,ae];exact λx _=>Sy.dA r x
section
variable {P : Program} {f : FuncId} {r : Sy} {b : Nat}
def AG1 (P:Program) (f:FuncId) (z b:Nat):Prop :=
 (∀ R,R6 bS P (Env.of []) (λ_=>aX) 1 f [T.v (.slice none 0 0)] R=R []) /\
 (∀ fl R,R6 bS P (Env.of []) (λ_=>aX) 1 f [T.ne fl] R=bH (eP z ([]:List (List T))&&true&&decide (0<=140737488355328)&&decide (([]:List (List T)).length<=140737488355328)) (R [])) /\
 (∀ fl a rows R,R6 bS P (Env.of []) (λ_=>aX) 1 f [T.sl fl (a::rows)] R=bH (eP z (a::rows)&&true&&decide ((a::rows).length*b<=140737488355328)&&decide ((a::rows).length<=140737488355328)) (R (a::rows)))
def xF (P:Program) (f:FuncId) (z b:Nat):Prop :=
 (∀ R,dV bS P (Env.of []) (λ_=>aX) 1 f [T.v (.slice none 0 0)] R=R (.sl false [])) /\
 (∀ fl R,dV bS P (Env.of []) (λ_=>aX) 1 f [T.ne fl] R=bH (eP z ([]:List (List T))&&true&&decide (0<=140737488355328)&&decide (([]:List (List T)).length<=140737488355328)) (R (.sl false []))) /\
 (∀ fl a rows R,dV bS P (Env.of []) (λ_=>aX) 1 f [T.sl fl (a::rows)] R=bH (eP z (a::rows)&&true&&decide ((a::rows).length*b<=140737488355328)&&decide ((a::rows).length<=140737488355328)) (R (.sl false (a::rows))))
def mS (z b:Nat):List T->Option (List (List T))
 | [.v (.slice none 0 0)]=>some []
 | [.ne _]=>some []
 | [.sl _ (a::rows)]=>match eP z (a::rows)&&true&&decide ((a::rows).length*b<=140737488355328)&&decide ((a::rows).length<=140737488355328) with
  | true=>some (a::rows)
  | false=>none
 | _=>none
def PQ {l:List r.den} {rows:List (List T)} (h:pW r b l=some rows) (hf:HV (Sh.iS [(false,.li r)] l) args'):mS r.w b args'=some rows:=by
 unfold pW at h;split at h
 ·rename_i hb;cases h;simp only[ac,ae] at hb;rcases ATV (r:=r) (l:=l) hf with ⟨rfl,rfl|⟨fl,rfl⟩⟩|⟨a,m,rfl,rfl⟩
  ·rfl
  ·rfl
  ·have h1:eP r.w (r.enc a::List.map r.enc m)=true:=tQ r (a::m);have h2:(r.enc a::List.map r.enc m).length=(a::m).length:=by simp
   simp only[mS,h1,h2,Bool.true_and,hb.1,hb.2,decide_true,List.map_cons]
 ·cases h
def ATB (hm:P.follows .mixedOrders=true) (hn:cI P=true) (hex:∃ fn c,P.funcs[f]? = some fn/\fn.body=some c) (h:AG1 P f r.w b):fE P f (gS [(false,.li r)] (pW r b)):=by
 refine fE.CM (g':=mS r.w b) (PM (Hs:=λ_=>aX) (aQ.nil _) hm hn (aL (l:=[]) rfl) 1 hex λargs rows hg _=>?_) λargs rows hg args' hf=>?_
 ·unfold mS at hg;split at hg
  ·cases hg;rw[h.1]
  ·cases hg;rw[h.2.1];exact ⟨by simp[eP],rfl⟩
  ·rename_i fl a rows';split at hg
   ·rename_i hb;cases hg;rw[h.2.2];exact ⟨hb,rfl⟩
   ·cases hg
  ·cases hg
 ·obtain ⟨l,rfl,hl⟩:=vR hg;exact PQ hl hf
def nR (hm:P.follows .mixedOrders=true) (hn:cI P=true) (hex:∃ fn c,P.funcs[f]? = some fn/\fn.body=some c) (h:xF P f r.w b):aM P f (gS [(false,.li r)] (cZ r b)):=by
 refine aM.CM (g':=λargs=>(mS r.w b args).map (.sl false)) (I8 (Hs:=λ_=>aX) (aQ.nil _) hm hn (aL (l:=[]) rfl) 1 hex λargs rows hg _=>?_) λargs rows hg args' hf=>?_
 ·simp only[aa] at hg;obtain ⟨rs,hg,rfl⟩:=hg;unfold mS at hg;split at hg
  ·cases hg;rw[h.1]
  ·cases hg;rw[h.2.1];exact ⟨by simp[eP],rfl⟩
  ·rename_i fl a rows';split at hg
   ·rename_i hb;cases hg;rw[h.2.2];exact ⟨hb,rfl⟩
   ·cases hg
  ·cases hg
 ·obtain ⟨l,rfl,hl⟩:=vR hg;simp only[cZ,aa] at hl;obtain ⟨rs,hl,rfl⟩:=hl;show Option.map (T.sl false) (mS r.w b args')=_;rw[PQ hl hf];rfl
end
end Go.Pv
