/-
  The pure evaluator, part r: functions that hand back a record whose lists lie in new memory of its own (copies).
-/
import Derived.Test.YtjledgajjgkbhaaGreatDoorVapwy
set_option linter.defProp false
set_option linter.unusedSimpArgs false
namespace Go.Pv
open Go Go.RowKit
def iV {α:Type} (f:Nat→Option α) (n m:Nat) (L:Nat→α):Nat→Option α:=fun i=>if n≤i∧i<n+m then some (L (i-n)) else f i
theorem fY {α:Type} {f:Nat→Option α} {n m:Nat} {L:Nat→α} {i:Nat} (h:i<n):iV f n m L i=f i:=by unfold iV;rw[if_neg (by omega)]
theorem wV {α:Type} {f:Nat→Option α} {n m:Nat} {L:Nat→α} {i:Nat} (h:i<m):iV f n m L (n+i)=some (L i):=by unfold iV;rw[if_pos (by omega),Nat.add_sub_cancel_left]
theorem gY {α:Type} {f:Nat→Option α} {n m:Nat} {L:Nat→α} {i:Nat} {y:α} (h:iV f n m L i=some y):(∃ j,j<m∧i=n+j∧y=L j)∨(¬ (n≤i∧i<n+m)∧f i=some y):=by
 unfold iV at h
 split at h
 ·rename_i hc
  cases h
  exact .inl ⟨i-n,by omega,by omega,rfl⟩
 ·rename_i hc;exact .inr ⟨hc,h⟩
theorem Inv.A0F {cx:Cx} {ρ:Nat→Option Loc} {σ:Nat→Option bB} {n:Nat} {w w':World} (h:Inv cx ρ σ n w) (m:Nat) (L:Nat→Loc) (X:Nat→bB) (hb:Below w.heap.size w w')
  (hl:∀ i,i<m→0<(L i).L+(L i).C→w.heap.size≤(L i).bJ∧(L i).bJ<w'.heap.size)
  (hd:∀ i j,i<m→j<m→0<(L i).L+(L i).C→0<(L j).L+(L j).C→(L i).bJ=(L j).bJ→i=j)
  (hx:∀ i,i<m→fF w' (fun b=>bL cx ρ σ b∨∃ j,j<m∧0<(L j).L+(L j).C∧b=(L j).bJ) (iV ρ n m L) (L i) (X i)) :
  Inv cx (iV ρ n m L) (iV σ n m X) (n+m) w'∧bO cx ρ (iV ρ n m L) σ (iV σ n m X) w w':=by
 have hlt:∀ {i l'},ρ i=some l'→i<n:=fun {i l'} hi=>(h.new i l' hi).1
 have hlt2:∀ {i y},σ i=some y→i<n:=fun {i y} hi=>by obtain ⟨l',h1,_⟩:=h.boxes i y hi;exact hlt h1
 have hρ:∀ i l',ρ i=some l'→iV ρ n m L i=some l':=fun i l' hi=>by rw[fY (hlt hi)];exact hi
 have hown':∀ b,bL cx (iV ρ n m L) (iV σ n m X) b→bL cx ρ σ b∨∃ j,j<m∧0<(L j).L+(L j).C∧b=(L j).bJ:=by
  intro b hc
  rcases hc with hc|⟨i,l',y,h1,h2,h3,h4⟩
  ·exact .inl (.inl hc)
  ·rcases gY h2 with ⟨j,hj,rfl,rfl⟩|⟨hn,h2⟩
   ·exact .inr ⟨j,hj,h3,h4.symm⟩
   ·rw[fY (hlt h2)] at h1
    exact .inl (.inr ⟨i,l',y,h1,h2,h3,h4⟩)
 have hown:∀ b,b<w.heap.size→¬ bL cx ρ σ b→¬ bL cx (iV ρ n m L) (iV σ n m X) b:=by
  intro b hb hn hc
  rcases hown' b hc with hc|⟨j,hj,hL,rfl⟩
  ·exact hn hc
  ·have:=(hl j hj hL).1;omega
 have hc:∀ b,¬ bL cx ρ σ b→b<w.heap.size→w'.heap[b]? = w.heap[b]? := fun b _ hlt=>hb.block b hlt
 refine ⟨⟨fun i y hi=>?_,fun i i' y y' k k' h1 h2 h3 h4 hL hL' he=>?_,fun i k hk=>?_,fun i y k hi hk hL hw=>?_,h.below.trans (B4 (hb.mono h.below.size)),h.jY,h.low⟩,⟨hc,hb.size,hown,hρ,rV hb,fun i y hi hy=>⟨y,by rw[fY (hlt2 hi)];exact hi,hy⟩⟩⟩
 ·rcases gY hi with ⟨j,hj,rfl,rfl⟩|⟨hn,hi⟩
  ·exact ⟨L j,wV hj,(hx j hj).mono (fun _ _ _=>rfl) (Nat.le_refl _) (fun b _ hn hc=>hn (hown' b hc)) (fun _ _ h=>h) (fun _=>rfl)⟩
  ·obtain ⟨k,hk,h1⟩:=h.boxes i y hi
   exact ⟨k,hρ _ _ hk,h1.mono hc hb.size hown hρ fun hL=>hb.block _ ((h.new i k hk).2 hL).1⟩
 ·rcases gY h3 with ⟨j,hj,rfl,rfl⟩|⟨hn,h3⟩
  ·rcases gY h4 with ⟨j',hj',rfl,rfl⟩|⟨hn',h4⟩
   ·rw[hd j j' hj hj' hL hL' he]
   ·have:=((h.new i' k' h4).2 hL').1
    have:=(hl j hj hL).1
    omega
  ·rcases gY h4 with ⟨j',hj',rfl,rfl⟩|⟨hn',h4⟩
   ·have:=((h.new i k h3).2 hL).1
    have:=(hl j' hj' hL').1
    omega
   ·rw[fY (hlt h3)] at h1
    rw[fY (hlt h4)] at h2
    exact h.inj i i' y y' k k' h1 h2 h3 h4 hL hL' he
 ·rcases gY hk with ⟨j,hj,rfl,rfl⟩|⟨hn,hk⟩
  ·have:=h.below.size
   exact ⟨by omega,fun hL=>⟨(hl j hj hL).2,fun ho=>by have:=h.jY _ ho;have:=(hl j hj hL).1;omega⟩⟩
  ·have h1:=h.new i k hk
   have:=hb.size
   exact ⟨by omega,fun hL=>⟨by have:=(h1.2 hL).1;omega,(h1.2 hL).2⟩⟩
 ·rcases gY hk with ⟨j,hj,rfl,rfl⟩|⟨hn,hk⟩
  ·have:=h.below.size
   have:=(hl j hj hL).1
   exact .inl (by omega)
  ·rw[fY (hlt hk)] at hi
   exact h.q7 i y k hi hk hL hw
theorem pL:∀ (bs:List bB) (σ:Nat→Option bB) (n i:Nat),KA σ n bs i=iV σ n bs.length (fun j=>bs.getD j .held) i
 | [],σ,n,i=>by
  show σ i=_
  unfold iV;rw[if_neg (show ¬ (n≤i∧i<n+([]:List bB).length) from fun h=>by have:=h.2;simp at this;omega)]
 | b::l,σ,n,i=>by
  show KA (bY σ n (some b)) (n+1) l i=_
  rw[pL l]
  unfold iV
  rw[List.length_cons]
  by_cases h1:n+1≤i∧i<n+1+l.length
  ·rw[if_pos h1,if_pos (by omega)]
   rw[show i-n=(i-(n+1))+1 by omega];rfl
  ·rw[if_neg h1]
   by_cases h2:i=n
   ·subst h2
    rw[fC,if_pos (by omega),Nat.sub_self];rfl
   ·rw[bK _ _ h2,if_neg (by omega)]
theorem yC:∀ {l:List Nat},nodupB l=true→l.Nodup
 | [],_=>List.nodup_nil
 | a::l,h=>by
  simp only[nodupB,Bool.and_eq_true,List.all_eq_true,Bool.not_eq_true'] at h
  refine List.nodup_cons.2 ⟨fun hm=>?_,yC h.2⟩
  have:=h.1 a hm
  rw[Nat.beq_refl] at this;cases this
theorem D1:∀ {zs:List (Nat×Nat)} {row:List T} {bs:List bB},KB row zs=some bs→bs.length=zs.length
 | [],_,_,h=>by cases h;rfl
 | (c,z)::zs,row,bs,h=>by
  unfold KB at h
  split at h
  ·split at h
   ·rename_i h1
    cases h
    rw[List.length_cons,D1 h1];rfl
   ·cases h
  ·cases h
theorem iR:∀ (zs:List (Nat×Nat)) (n:Nat) (ds:List D),(kD zs n ds).length=ds.length
 | [],_,_=>rfl
 | (c,z)::zs,n,ds=>by rw[kD,iR zs,List.length_set]
theorem AEI {Q:D→D→Prop}:∀ (zs:List (Nat×Nat)) (k n:Nat) (ds ds':List D),ds.length=ds'.length→(∀ i (h:i<ds.length) (h':i<ds'.length),Q ds[i] ds'[i])→(∀ j,j<zs.length→Q (.own (k+j)) (.own (n+j))) →
  ∀ i (h:i<(kD zs k ds).length) (h':i<(kD zs n ds').length),Q (kD zs k ds)[i] (kD zs n ds')[i]
 | [],_,_,_,_,_,hq,_,i,h,h'=>hq i h h'
 | (c,z)::zs,k,n,ds,ds',hl,hq,ho,i,h,h'=>by
  refine AEI zs (k+1) (n+1) (ds.set c (.own k)) (ds'.set c (.own n)) (by rw[List.length_set,List.length_set,hl]) (fun i h h'=>?_) (fun j hj=>?_) i h h'
  ·rw[List.length_set] at h h'
   by_cases e:c=i
   ·subst e
    rw[List.getElem_set_self,List.getElem_set_self]
    exact ho 0 (by simp)
   ·rw[List.getElem_set_ne e,List.getElem_set_ne e]
    exact hq i h h'
  ·have:=ho (j+1) (by simpa using hj)
   rw[show k+1+j=k+(j+1) by omega,show n+1+j=n+(j+1) by omega]
   exact this
theorem TN {σ₀ σ:Nat→Option bB} (h:∀ k x,σ₀ k=some x→σ k=some x):∀ {zs:List (Nat×Nat)} {ds:List D} {r:List Nat×List D},FL σ₀ zs ds=some r→FL σ zs ds=some r
 | [],ds,r,hr=>hr
 | (c,z)::zs,ds,r,hr=>by
  unfold FL at hr ⊢
  split at hr
  ·rename_i k hc
   split at hr
   ·rename_i ro z' rows hσ
    split at hr
    ·rename_i hz ho
     cases hr
     simp only[hc,h _ _ hσ,hz,TN h ho]
    ·cases hr
   ·cases hr
  ·cases hr
theorem R6 {σ₀ σ:Nat→Option bB} (h:∀ k x,σ₀ k=some x→σ k=some x) {o:Bool} {zs:List (Nat×Nat)} {ds:List D} {r:Bool×List T} (hr:VW o zs σ₀ ds=some r):VW o zs σ ds=some r:=by
 unfold VW at hr ⊢
 cases ha:gZ ds with
 | some row =>
  simp only[ha] at hr ⊢
  exact hr
 | none =>
  simp only[ha] at hr ⊢
  cases o with
  | false=>exact hr
  | true =>
   cases ho:FL σ₀ zs ds with
   | none=>rw[ho] at hr;cases hr
   | some x =>
    rw[ho] at hr
    rw[TN h ho]
    exact hr
theorem AG9 {σ₀ σ:Nat→Option bB} (h:∀ k x,σ₀ k=some x→σ k=some x) {o:Bool} {s:Option FuncId} {zs:List (Nat×Nat)} {args:List D} {r:Bool×List T} (hr:w5 o s zs σ₀ args=some r):w5 o s zs σ args=some r:=by
 unfold w5 at hr ⊢
 split at hr
 ·exact hr
 ·exact R6 h hr
 ·split at hr
  ·exact R6 h hr
  ·cases hr
 ·cases hr
theorem AQL {σ₀ σ₁:Nat→Option bB} (h:∀ k x,σ₀ k=some x→σ₁ k=some x) {o:Bool} {s:Option FuncId} {zs:List (Nat×Nat)} {g:List T→Option T} {args:List D} {σ:Nat→Option bB} {n:Nat} {r:D×(Nat→Option bB)×Nat} (hr:CF o s zs g args σ₀ σ n=some r):CF o s zs g args σ₁ σ n=some r:=by
 unfold CF at hr ⊢
 split at hr
 ·rename_i hi
  rw[AG9 h hi]
  exact hr
 ·cases hr
theorem HN {o:Bool} {s:Option FuncId} {zs:List (Nat×Nat)} {g:List T→Option T} {args:List D} {σ0 σ σ':Nat→Option bB} {n n':Nat} {d:D} (h:CF o s zs g args σ0 σ n=some (d,σ',n')):∃ b row t row' bs,w5 o s zs σ0 args=some (b,row)∧g (eF s row)=some t∧NJ s t=some row'∧KB row' zs=some bs ∧
  d=A9G s (kD zs n (row'.map D.p))∧σ'=KA σ n bs∧n'=n+zs.length:=by
 unfold CF at h
 split at h
 case h_2=>cases h
 rename_i b row hin
 split at h
 case h_2=>cases h
 rename_i t hg
 split at h
 case h_2=>cases h
 rename_i row' hr
 split at h
 case h_2=>cases h
 rename_i bs hbs
 cases h
 exact ⟨b,row,t,row',bs,hin,hg,hr,hbs,rfl,rfl,rfl⟩
theorem AX2 {o:Bool} {s:Option FuncId} {zs:List (Nat×Nat)} {g:List T→Option T} {args:List D} {σ0 σ σ':Nat→Option bB} {n n':Nat} {d:D} (h:CF o s zs g args σ0 σ n=some (d,σ',n')):n'=n+zs.length∧∀ k,k<n→σ' k=σ k:=by
 obtain ⟨b,row,t,row',bs,_,_,_,_,_,rfl,rfl⟩:=HN h
 exact ⟨rfl,fun k hk=>by rw[pL,fY hk]⟩
theorem A5N {o:Bool} {s:Option FuncId} {zs:List (Nat×Nat)} {g:List T→Option T} {args:List D} {σ0 σ σ':Nat→Option bB} {n n':Nat} {d:D} (h:CF o s zs g args σ0 σ n=some (d,σ',n')):∃ (m:Nat) (X:Nat→bB),n'=n+m∧σ'=iV σ n m X∧∀ τ,CF o s zs g args σ0 τ n=some (d,iV τ n m X,n'):=by
 obtain ⟨b,row,t,row',bs,h1,h2,h3,h4,rfl,rfl,rfl⟩:=HN h
 have hl:=D1 h4
 refine ⟨zs.length,fun j=>bs.getD j .held,rfl,funext fun i=>by rw[pL,hl],fun τ=>?_⟩
 rw[show iV τ n zs.length (fun j=>bs.getD j .held)=KA τ n bs from funext fun i=>by rw[pL,hl]]
 simp only[CF,h1,h2,h3,h4]
theorem ALJ {cx:Cx} {ρ:Nat→Option Loc} {σ:Nat→Option bB} {n:Nat} {w:World} {f:FuncId} {o:Bool} {s:Option FuncId} {zs:List (Nat×Nat)} {g:List T→Option T} (hf:sQ cx.P f o s zs g) (hI:Inv cx ρ σ n w) (hG:Good cx.P w) {args:List D} {vs:Array Value} {d:D} {σ':Nat→Option bB} {n':Nat} (ha:cZ (Rd w (bL cx ρ σ) ρ) args vs)
  (h:CF o s zs g args σ σ n=some (d,σ',n')):Calls cx.P f vs w (fun e w'=>∃ v ρ',e = .returned v∧Inv cx ρ' σ' n' w'∧bO cx ρ ρ' σ σ' w w'∧Rd w' (bL cx ρ' σ') ρ' d v∧∀ i,i<n→ρ' i=ρ i):=by
 obtain ⟨b,row,t,row',bs,hin,hg,hrow,hbs,rfl,rfl,rfl⟩:=HN h
 refine (hf.calls cx ρ σ n w args vs b row row' t bs rfl hG hI ha hin hg hrow hbs).mono ?_
 rintro e w' ⟨vc,L,rfl,hb,hl,hd,hx,hc⟩
 have hlen:=D1 hbs
 have hσ:KA σ n bs=iV σ n zs.length (fun j=>bs.getD j .held):=funext fun i=>by rw[pL,hlen]
 obtain ⟨g1,g2⟩:=hI.A0F zs.length L (fun j=>bs.getD j .held) hb hl hd (fun i hi=>(hx i hi).mono (fun _ _ _=>rfl) (Nat.le_refl _) (fun b _ hn hc=>hn hc) (fun _ _ hk=>by cases hk) (fun _=>rfl))
 have hown:∀ b,bL cx (iV ρ n zs.length L) (iV σ n zs.length (fun j=>bs.getD j .held)) b→bL cx ρ σ b∨oC zs.length L b:=by
  rintro b (hb'|⟨i,l',y,h1,h2,h3,h4⟩)
  ·exact .inl (.inl hb')
  ·rcases gY h2 with ⟨j,hj,rfl,rfl⟩|⟨hn,h2⟩
   ·exact .inr ⟨j,hj,h3,h4.symm⟩
   ·rw[fY (hI.new i l' h2).1] at h1
    exact .inl (.inr ⟨i,l',y,h1,h2,h3,h4⟩)
 refine ⟨VX s vc,iV ρ n zs.length L,rfl,hσ ▸ g1,hσ ▸ g2,?_,fun i hi=>fY hi⟩
 rw[hσ]
 have cell:∀ i (hi:i<(kD zs n (row'.map D.p)).length),Rd w' (bL cx (iV ρ n zs.length L) (iV σ n zs.length (fun j=>bs.getD j .held))) (iV ρ n zs.length L) (kD zs n (row'.map D.p))[i] (vc.getD i undef):=fun i hi=>by
  refine AEI (Q:=fun a b=>∀ v,Rd w' (fun b=>bL cx ρ σ b∨oC zs.length L b) (fun i=>if i<zs.length then some (L i) else none) a v→Rd w' (bL cx (iV ρ n zs.length L) (iV σ n zs.length (fun j=>bs.getD j .held))) (iV ρ n zs.length L) b v) zs 0 n (row'.map .p) (row'.map .p) rfl (fun i h h' v hv=>?_) (fun j hj v hv=>?_) i (by rw[iR] at hi ⊢;exact hi) hi _ (hc.2 i (by rw[iR] at hi ⊢;exact hi))
  ·rw[List.getElem_map] at hv ⊢
   cases hv with
   | p _ _ hv=>exact .p _ _ (hv.less hown)
  ·rw[Nat.zero_add] at hv
   have e:(if j<zs.length then some (L j) else none)=some (L j):=if_pos hj
   cases hv with
   | own _ l h1 h2 h3 h4=>cases e.symm.trans h1;exact .own _ (L j) (wV hj) h2 h3 h4
   | c0 _ l a h1 h2=>cases e.symm.trans h1;exact .c0 _ (L j) a (wV hj) h2
 cases s with
 | none=>exact .agg _ vc (by rw[hc.1,iR,iR]) cell
 | some c =>
  cases hrow
  have hl1:0<(kD zs n ([t].map D.p)).length:=by rw[iR];simp
  have h0:=cell 0 hl1
  show Rd _ _ _ ((kD zs n ([t].map D.p)).headD _) _
  rw[List.headD_eq_head?_getD,List.head?_eq_getElem?,List.getElem?_eq_getElem hl1]
  exact h0
end Go.Pv
