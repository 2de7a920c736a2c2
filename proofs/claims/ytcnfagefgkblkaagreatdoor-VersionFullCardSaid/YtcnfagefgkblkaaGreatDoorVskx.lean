/-
  The symbolic executor, part x: closures that call themselves, and turn variables of the caller's own.
-/
import Derived.Test.YtcnfagefgkblkaaGreatDoorVskv
set_option linter.defProp false
set_option linter.unusedSimpArgs false
namespace Go.Pv
open Go Go.RowKit
section
variable {P : Program} {E : Env} {Hs : FuncId → Hint}
end
section
variable {cx : Cx} {ρ : Nat → Option Loc} {σ : Nat → Option a6} {n : Nat} {w : World}
theorem AAS {k:Nat} {rows:List (List T)} {b:Nat} (h:Own cx ρ (HX σ k rows) b):Own cx ρ (bX σ k none) b:=by
 rcases h with h|⟨j,l,x,h1,h2,h3,h4⟩
 ·exact .inl h
 ·unfold HX at h1
  split at h1
  ·cases h1
  ·rename_i e
   obtain ⟨y,hy,_⟩:=Option.map_eq_some_iff.1 h1
   exact .inr ⟨j,l,y,by rw[bE _ _ (fun e'=>by rw[e',Nat.beq_refl] at e;cases e)];exact hy,h2,h3,h4⟩
theorem xT {k:Nat} {rows:List (List T)} {b:Nat} (h:Own cx ρ (HX σ k rows) b):Own cx ρ σ b:=by
 rcases AAS h with h|⟨j,l,x,h1,h2⟩
 ·exact .inl h
 ·by_cases e:j=k
  ·subst e;rw[dQ] at h1;cases h1
  ·rw[bE _ _ e] at h1;exact .inr ⟨j,l,x,h1,h2⟩
theorem Rd.AW6 {own own':Nat→Prop} (ho:∀ b,own' b→own b) {d:D} {v:Value} (h:Rd w own ρ d v):Rd w own' ρ d v :=
 h.mono (fun _ _ _=>rfl) (Nat.le_refl _) (fun b _ hn hc=>hn (ho b hc)) (fun _ _ h=>h)
theorem UT (hI:Inv cx ρ σ n w) {k z:Nat} {rows:List (List T)} (hk:σ k=some (.arr false z rows)) {d:D} {v:Value} (hd:Rd w (Own cx ρ σ) ρ d v):Rd w (Own cx ρ (HX σ k rows)) ρ (AZ0 k rows d) v:=by
 unfold AZ0
 split
 ·split
  ·rename_i e
   have e:=Nat.eq_of_beq_eq_true e
   subst e
   exact (AH6 hI hk hd).AW6 fun b hb=>AAS hb
  ·exact hd.AW6 fun b hb=>xT hb
 ·exact hd.AW6 fun b hb=>xT hb
theorem A41 (hI:Inv cx ρ σ n w) {k z:Nat} {rows:List (List T)} (hk:σ k=some (.arr false z rows)) {d:D} {v:Value} (hd:Rd w (Own cx ρ σ) ρ d v):Rd w (Own cx ρ (HX σ k rows)) ρ (BBC k rows d) v:=by
 unfold BBC
 split
 ·cases hd with
  | agg cs vs h1 h2 =>
   refine .agg _ vs (by simpa using h1) fun i hi=>?_
   rw[List.getElem_map]
   exact UT hI hk (h2 i (by simpa using hi))
 ·exact UT hI hk hd
theorem AZT (hI:Inv cx ρ σ n w) {k z:Nat} {rows:List (List T)} (hk:σ k=some (.arr false z rows)):Inv cx ρ (HX σ k rows) n w∧bJ cx ρ ρ σ (HX σ k rows) w w:=by
 have old:∀ j x,HX σ k rows j=some x→∃ y,σ j=some y∧x=A0 k rows y:=fun j x h=>by
  unfold HX at h
  split at h
  ·cases h
  ·obtain ⟨y,hy,e⟩:=Option.map_eq_some_iff.1 h
   exact ⟨y,hy,e.symm⟩
 have wr:∀ y,e9 (A0 k rows y)=e9 y:=fun y=>by
  unfold A0;split<;>rfl
 refine ⟨⟨fun j x hj=>?_,fun i i' y y' m m' h1 h2 h3 h4 hL hL' he=>?_,hI.new,fun j x l hj hl hL hw=>?_,hI.below,hI.jG,hI.low⟩,⟨fun _ _ _=>rfl,Nat.le_refl _,fun b _ hn hc=>hn (xT hc),fun _ _ h=>h,fun _ _ h=>h,fun j x hx hw=>⟨x,(AI8 (n:=j+1) hk).2 j x (Nat.lt_succ_self j) hx hw,hw⟩⟩⟩
 ·obtain ⟨y,hy,rfl⟩:=old j x hj
  obtain ⟨l,hl,hb1,hb2⟩:=hI.boxes j y hy
  refine ⟨l,hl,fun hL=>?_,fun h0=>?_⟩
  ·obtain ⟨o,ho,hbx⟩:=hb1 hL
   refine ⟨o,ho,?_⟩
   unfold A0
   split
   ·rename_i rs
    cases hbx with
    | rows _ rs' c hr hz hB =>
     cases hr
     refine .rows _ _ c rfl (fun _ _ _ e=>by cases e) ⟨hB.size,hB.pos,by simpa using hB.small,by simpa using hB.len,by simpa using hB.cnt,fun r hr=>?_,fun i j hi hj=>?_,hB.one⟩
     ·obtain ⟨r',hr',rfl⟩:=List.mem_map.1 hr
      rw[List.length_map];exact hB.width r' hr'
     ·have hi':i<rs.length:=by simpa using hi
      have hj':j<rs[i].length:=by simpa using hj
      obtain ⟨u,u1,u2⟩:=hB.cell i j hi' hj'
      refine ⟨u,u1,?_⟩
      simp only[List.getElem_map]
      exact UT hI hk u2
   ·exact hbx.mono (fun _ _ _=>rfl) (Nat.le_refl _) (fun b _ hn hc=>hn (xT hc)) (fun _ _ h=>h)
  ·obtain ⟨ro,z',e⟩:=hb2 h0
   subst e
   exact ⟨ro,z',rfl⟩
 ·obtain ⟨x,hx,_⟩:=old _ _ h1
  obtain ⟨x',hx',_⟩:=old _ _ h2
  exact hI.inj i i' x x' m m' hx hx' h3 h4 hL hL' he
 ·obtain ⟨y,hy,rfl⟩:=old j x hj
  exact hI.pX j y l hy hl hL (by rw[←wr y];exact hw)
theorem AI:∀ {ks:List Nat} {σ σ1:Nat→Option a6} {args args':List D} {vs:Array Value},Inv cx ρ σ n w→cT (Rd w (Own cx ρ σ) ρ) args vs→HA σ ks args=some (args',σ1)→Inv cx ρ σ1 n w∧bJ cx ρ ρ σ σ1 w w∧cT (Rd w (Own cx ρ σ1) ρ) args' vs
 | [],σ,σ1,args,args',vs,hI,ha,h=>by cases h;exact ⟨hI,bJ.refl _ _ _ _,ha⟩
 | k::ks,σ,σ1,args,args',vs,hI,ha,h=>by
  unfold HA at h
  split at h
  ·rename_i hk
   obtain ⟨g1,g2⟩:=AZT hI hk
   obtain ⟨g3,g4,g5⟩:=AI g1 (ha.map _ fun d v hd=>A41 hI hk hd) h
   exact ⟨g3,g2.trans' g4,g5⟩
  ·exact AI hI ha h
  ·cases h
theorem AH5 {P:Program} {f:FuncId} {g:List T→Option T} (hf:aN P f g):cF P f (BQ g):=⟨hf.entry,fun cx ρ σ n w args vs d σ' n' hcP hG hI ha hg=>by
 subst hcP
 unfold BQ at hg
 split at hg
 case h_2=>cases hg
 rename_i args' σ2 hgive
 split at hg
 case h_2=>cases hg
 rename_i ts hts
 simp only[Option.map_eq_some_iff,Prod.mk.injEq] at hg
 obtain ⟨r,hr,rfl,rfl,rfl⟩:=hg
 obtain ⟨hI1,hK1,ha1⟩:=AI hI ha hgive
 have h1:cT (cE w (Own cx ρ σ2)) ts vs:=xE (τ:=fun _=>none) (m:=2) (fun hd ht=>z8 (τ:=fun _=>none) hI1 (fun b hb=>hb) (fun _ _ h=>by cases h) (fun _ _ _ h=>by cases h) 2 hd ht) ha1 hts
 have h2:cT (cE w (Own cx ρ σ2)) (ts.map (T.canon 4)) vs:=h1.map _ fun d v hd=>hd.canon 4
 refine (hf.calls w (Own cx ρ σ2) _ vs r hG (fun b hb=>Own.lt hI1 hb) h2 hr).mono ?_
 rintro e w' ⟨v,rfl,h3,h4⟩
 exact ⟨v,ρ,rfl,hI1.grow h4 (Nat.le_succ n),hK1.trans' (bJ.fM h4),.p _ _ h3⟩⟩
end
end Go.Pv
