/-
  The pure evaluator, part g: frozen data, calls of functions that are known, and the operations that leave the boxes alone, all together.
-/
import Derived.Test.YtcnfagefgkblkaaGreatDoorVswf
set_option linter.defProp false
set_option linter.unusedSimpArgs false
namespace Go.Pv
open Go Go.RowKit
def gL (σ:Nat→Option a6):Nat→D→Option T
 | _,.p t=>some t
 | n+1,.agg cs=>(cs.mapM (gL σ n)).map .agg
 | n+1,.bU cs=>(cs.mapM (gL σ n)).map .bU
 | n+1,.fn f a b=>match a.mapM (gL σ n),b.mapM (gL σ n) with
  | some a,some b=>some (.fn f a b)
  | _,_=>none
 | n+1,.ptr k i j =>
  match (σ k).bind dL with
  | some rs=>match rs[i]? with
   | some r=>if j<r.length then ((r.drop j).mapM (gL σ n)).map .ref else none
   | none=>none
  | _=>none
 | n+1,.own k =>
  match σ k with
  | some (.arr _ _ rows)=>some (.sl false rows)
  | some (.rows _ rs)=>(rs.mapM fun (r:List D)=>r.mapM (gL σ n)).map (.sl false)
  | _=>none
 | n+1,.bs k off len =>
  match σ k with
  | some (.arr _ _ rows)=>if off+len≤rows.length then some (.sl false ((rows.drop off).take len)) else none
  | some (.rows _ rs)=>if off+len≤rs.length then (((rs.drop off).take len).mapM fun (r:List D)=>r.mapM (gL σ n)).map (.sl false) else none
  | _=>none
 | n+1,.map k =>
  match σ k with
  | some (.map _ es)=>(es.mapM fun (e:Value×D)=>(gL σ n e.2).map fun t=>(e.1,t)).map .mp
  | _=>none
 | _,_=>none
section
variable {cx : Cx} {ρ : Nat → Option Loc} {σ : Nat → Option a6} {n : Nat} {w : World}
theorem Inv.AT7 (h:Inv cx ρ σ n w) {k:Nat} {l:Loc} (hl:ρ k=some l) (hL:0<l.L+l.C):¬ cx.own l.bG:=((h.new k l hl).2 hL).2
theorem cE.less {own own':Nat→Prop} (ho:∀ b,own' b→own b) {t:T} {v:Value} (h:cE w own t v):cE w own' t v :=
 h.mono (fun _ _ _=>rfl) (Nat.le_refl _) (fun b _ hn hc=>hn (ho b hc))
theorem xE {own own0:Nat→Prop} {τ:Nat→Option a6} {m:Nat} (ih:∀ {d:D} {t:T} {v:Value},Rd w own ρ d v→gL τ m d=some t→cE w own0 t v) {ds:List D} {ts:List T} {vs:Array Value} (h:cT (Rd w own ρ) ds vs)
  (hf:ds.mapM (gL τ m)=some ts):cT (cE w own0) ts vs:=by
 obtain ⟨h1,h2⟩:=mapM_some_length hf
 refine ⟨by rw[h1];exact h.1,fun i hi=>?_⟩
 exact ih (h.2 i (by omega)) (h2 i (by omega) hi)
theorem BDF (τ:Nat→Option a6) (m:Nat) (t:T):gL τ m (.p t)=some t:=by cases m<;>rfl
theorem LG (τ:Nat→Option a6) (m:Nat):∀ (r:List T),(r.map D.p).mapM (gL τ m)=some r
 | []=>rfl
 | t::r=>by simp only[List.map_cons,List.mapM_cons,BDF,LG τ m r];rfl
theorem EW (τ:Nat→Option a6) (m:Nat):∀ (rows:List (List T)),(aT rows).mapM (fun (r:List D)=>r.mapM (gL τ m))=some rows
 | []=>rfl
 | r::rows=>by
  have:=EW τ m rows
  simp only[aT,List.map_cons,List.mapM_cons] at this ⊢
  simp only[LG,this]
  rfl
theorem G3 {own0:Nat→Prop} {τ:Nat→Option a6} {m:Nat} (h:Inv cx ρ σ n w) {k:Nat} {rs:List (List D)} (hk:(σ k).bind dL=some rs) {l:Loc} (hl:ρ k=some l) (hL:0<l.L+l.C) (_:l.C≤maxLen) (hdis:¬ own0 l.bG)
  (ih:∀ {d:D} {t:T} {v:Value},Rd w (Own cx ρ σ) ρ d v→gL τ m d=some t→cE w own0 t v) {off len:Nat} (hle:off+len≤rs.length) {rows:List (List T)} (hrows:((rs.drop off).take len).mapM (fun (r:List D)=>r.mapM (gL τ m))=some rows) (hpos:0<len) :
  cE w own0 (.sl false rows) (.slice (some ⟨l.bG,off*l.sz,none⟩) len (l.C-off)):=by
 obtain ⟨g1,g2⟩:=mapM_some_length hrows
 obtain ⟨l',c,hl',_,_,hb⟩:=h.rows hk (by intro e;subst e;simp at hle;omega)
 rw[hl] at hl';cases hl'
 have hlen:rows.length=len:=by rw[g1];simp;omega
 have hpos:0<rows.length:=by omega
 have hrow:∀ i (hi:i<rows.length),∃ (h2:off+i<rs.length),rs[off+i].mapM (gL τ m)=some rows[i]:=by
  intro i hi
  have:=g2 i (by omega) hi
  refine ⟨by omega,?_⟩
  simpa using this
 have hw:∀ i (hi:i<rows.length),rows[i].length=l.sz:=by
  intro i hi
  obtain ⟨h2,h3⟩:=hrow i hi
  rw[(mapM_some_length h3).1]
  exact hb.width _ (List.getElem_mem h2)
 have hcell:∀ i j (hi:i<rows.length) (hj:j<l.sz),∃ u,w.cell? ⟨l.bG,off*l.sz+i*l.sz+j,none⟩=some u∧u.oneCell'=true∧∀ (hj:j<rows[i].length),cE w own0 rows[i][j] u:=by
  intro i j hi hj
  obtain ⟨h2,h3⟩:=hrow i hi
  obtain ⟨e1,e2⟩:=mapM_some_length h3
  have hwid:=hb.width _ (List.getElem_mem h2)
  obtain ⟨u,u1,u2,u3⟩:=h.cellOf hk (i:=off+i) (r:=rs[off+i]) (by simp[h2]) (j:=j) (by omega) hl
  refine ⟨u,by rw[←Nat.add_mul];exact u1,u3,fun hj'=>ih u2 (e2 j (by omega) hj')⟩
 have hex:∃ f:Nat→Nat→Value,∀ i j (hi:i<rows.length) (hj:j<l.sz),w.cell? ⟨l.bG,off*l.sz+i*l.sz+j,none⟩=some (f i j)∧(f i j).oneCell'=true∧∀ (hj:j<rows[i].length),cE w own0 rows[i][j] (f i j):=by
  refine ⟨fun i j=>if hij:i<rows.length∧j<l.sz then Classical.choose (hcell i j hij.1 hij.2) else undef,fun i j hi hj=>?_⟩
  have hs:=Classical.choose_spec (hcell i j hi hj)
  simp only[dif_pos (show i<rows.length∧j<l.sz from ⟨hi,hj⟩)]
  exact hs
 obtain ⟨f,hf⟩:=hex
 rw[←hlen]
 have hsm:=hb.small
 have hCl:=hb.len
 exact .sl false rows l.sz l.bG (off*l.sz) (l.C-off) f (by omega) (by omega) (by simp) hdis ((h.new k l hl).2 hL).1 (fun r hr=>by
  obtain ⟨i,hi,rfl⟩:=List.mem_iff_getElem.1 hr
  exact hw i hi) hb.pos (fun i j hi hj=>⟨(hf i j hi hj).1,(hf i j hi hj).2.1⟩) (fun i j hi hj=>(hf i j hi (by rw[←hw i hi];exact hj)).2.2 hj)
theorem z8 {own0:Nat→Prop} {τ:Nat→Option a6} (h:Inv cx ρ σ n w) (h0:∀ b,own0 b→Own cx ρ σ b) (hτ:∀ k x,τ k=some x→σ k=some x) (hd:∀ k x l,τ k=some x→ρ k=some l→0<l.L+l.C→¬ own0 l.bG) :
  ∀ (m:Nat) {d:D} {t:T} {v:Value},Rd w (Own cx ρ σ) ρ d v→gL τ m d=some t→cE w own0 t v:=by
 have hdis:=hd
 clear hd
 intro m
 induction m with
 | zero =>
  intro d t v hd hf
  cases d<;>simp[gL] at hf
  subst hf
  cases hd with
  | p _ _ hd=>exact hd.less h0
 | succ m ih =>
  intro d t v hd hf
  cases hd with
  | p t' _ hd=>simp[gL] at hf;subst hf;exact hd.less h0
  | agg cs vs h1 h2 =>
   simp only[gL,Option.map_eq_some_iff] at hf
   obtain ⟨ts,hts,rfl⟩:=hf
   have:=xE ih ⟨h1,h2⟩ hts
   exact .agg _ _ this.1 this.2
  | bU cs vs h1 h2 =>
   simp only[gL,Option.map_eq_some_iff] at hf
   obtain ⟨ts,hts,rfl⟩:=hf
   have:=xE ih ⟨h1,h2⟩ hts
   exact .bU _ _ this.1 this.2
  | fn f fs cs va vb h1 h2 h3 h4 =>
   simp only[gL] at hf
   split at hf
   ·rename_i a b ha hb
    cases hf
    have k1:=xE ih ⟨h1,h3⟩ ha
    have k2:=xE ih ⟨h2,h4⟩ hb
    exact .fn _ _ _ _ _ k1.1 k2.1 k1.2 k2.2
   ·cases hf
  | ptr k i j l hl =>
   simp only[gL] at hf
   split at hf
   ·rename_i rs hk
    have hk':(σ k).bind dL=some rs:=by
     simp only[Option.bind_eq_some_iff] at hk ⊢
     obtain ⟨x,hx,hr⟩:=hk
     exact ⟨x,hτ _ _ hx,hr⟩
    obtain ⟨x0,hx0,_⟩:=Option.bind_eq_some_iff.1 hk
    split at hf
    ·rename_i r hr
     split at hf
     ·rename_i hj
      simp only[Option.map_eq_some_iff] at hf
      obtain ⟨ts,hts,rfl⟩:=hf
      obtain ⟨g1,g2⟩:=mapM_some_length hts
      have hcell:=fun q hq=>h.cellOf hk' hr (j:=j+q) hq hl
      have hL:0<l.L+l.C:=by
       obtain ⟨l',c,hl',hL,_⟩:=h.rows hk' (j7 hr)
       rw[hl] at hl';cases hl';exact hL
      have hex:∃ f:Nat→Value,∀ q,q<ts.length→w.cell? ⟨l.bG,(i*l.sz+j)+q,none⟩=some (f q)∧(f q).oneCell'=true∧∀ (hq:q<ts.length),cE w own0 ts[q] (f q):=by
       refine ⟨fun q=>if hq:j+q<r.length then Classical.choose (hcell q hq) else undef,fun q hq=>?_⟩
       have hq':j+q<r.length:=by rw[g1] at hq;simp at hq;omega
       have hs:=Classical.choose_spec (hcell q hq')
       simp only[dif_pos hq']
       refine ⟨by rw[Nat.add_assoc];exact hs.1,hs.2.2,fun _=>ih hs.2.1 ?_⟩
       have:=g2 q (by omega) hq
       simpa using this
      obtain ⟨f,hf⟩:=hex
      exact .ref ts l.bG _ f (hdis _ _ _ hx0 hl hL) ((h.new k l hl).2 hL).1 (fun q hq=>⟨(hf q hq).1,(hf q hq).2.1⟩) (fun q hq=>(hf q hq).2.2 hq)
     ·cases hf
    ·cases hf
   ·cases hf
  | own k l hl h0 hc1 hc2 =>
   have key:∃ (x:a6) (rs:List (List D)) (rows:List (List T)),τ k=some x∧dL x=some rs∧rs.mapM (fun (r:List D)=>r.mapM (gL τ m))=some rows∧t = .sl false rows:=by
    simp only[gL] at hf
    split at hf
    ·rename_i ro z rows hk
     cases hf
     exact ⟨_,_,rows,hk,rfl,EW τ m rows,rfl⟩
    ·rename_i ro rs hk
     simp only[Option.map_eq_some_iff] at hf
     obtain ⟨rows,h1,rfl⟩:=hf
     exact ⟨_,rs,rows,hk,rfl,h1,rfl⟩
    ·cases hf
   obtain ⟨x,rs,rows,hk,hr,hrows,rfl⟩:=key
   have hk':(σ k).bind dL=some rs:=by rw[hτ _ _ hk];exact hr
   have hL:=h.j8 hk' hl
   by_cases hz0:l.L=0
   ·have hlen:=(mapM_some_length hrows).1
    have:rows=[]:=List.eq_nil_of_length_eq_zero (by omega)
    subst this
    rw[hz0]
    exact .cH false _ _ (by simp) (by simp)
   have:=G3 h hk' hl h0 hc2 (hdis _ _ _ hk hl h0) ih (off:=0) (len:=rs.length) (by omega) (by simpa using hrows) (by omega)
   rw[hL] at this
   simpa using this
  | dF k l a hl h0 =>
   have hrs:∀ ro z rows,τ k=some (.arr ro z rows)→rows=[]:=by
    intro ro z rows hk
    have:=h.j8 (k:=k) (rs:=aT rows) (by rw[hτ _ _ hk];rfl) hl
    rw[show l.L=0 by omega] at this
    simpa using this
   simp only[gL] at hf
   split at hf
   ·rename_i ro z rows hk
    cases hf
    rw[hrs ro z rows hk]
    exact .cH false a 0 (by simp) (by simp)
   ·rename_i ro rs hk
    simp only[Option.map_eq_some_iff] at hf
    obtain ⟨rows,h1,rfl⟩:=hf
    have:=h.j8 (k:=k) (rs:=rs) (by rw[hτ _ _ hk];rfl) hl
    rw[show l.L=0 by omega] at this
    have h2:=(mapM_some_length h1).1
    rw[this] at h2
    rw[List.length_eq_zero_iff.1 h2]
    exact .cH false a 0 (by simp) (by simp)
   ·cases hf
  | bs k off len l hl hc1 hc2 =>
   have key:∃ (x:a6) (rs:List (List D)) (rows:List (List T)),τ k=some x∧dL x=some rs∧off+len≤rs.length∧((rs.drop off).take len).mapM (fun (r:List D)=>r.mapM (gL τ m))=some rows∧t = .sl false rows:=by
    simp only[gL] at hf
    split at hf
    ·rename_i ro z rows hk
     split at hf
     ·rename_i hle
      cases hf
      refine ⟨_,_,_,hk,rfl,by simpa using hle,?_,rfl⟩
      have:=EW τ m ((rows.drop off).take len)
      simpa [aT,List.map_drop,List.map_take] using this
     ·cases hf
    ·rename_i ro rs hk
     split at hf
     ·rename_i hle
      simp only[Option.map_eq_some_iff] at hf
      obtain ⟨rows,h1,rfl⟩:=hf
      exact ⟨_,rs,rows,hk,rfl,hle,h1,rfl⟩
     ·cases hf
    ·cases hf
   obtain ⟨x,rs,rows,hk,hr,hle,hrows,rfl⟩:=key
   have hk':(σ k).bind dL=some rs:=by rw[hτ _ _ hk];exact hr
   have hlen:rows.length=len:=by rw[(mapM_some_length hrows).1];simp;omega
   by_cases he:rows=[]
   ·subst he
    simp at hlen
    subst hlen
    exact .cH false _ _ (by simp) (by simp)
   ·have hpos:0<rows.length:=List.length_pos_iff.2 he
    obtain ⟨l',_,hl',hL,_⟩:=h.rows hk' (by intro e;subst e;simp at hle;omega)
    rw[hl] at hl';cases hl'
    have:=G3 h hk' hl hL hc2 (hdis _ _ _ hk hl hL) ih hle hrows (by omega)
    exact this
  | map k l hl =>
   simp only[gL] at hf
   split at hf
   ·rename_i ro es hk
    simp only[Option.map_eq_some_iff] at hf
    obtain ⟨ts,hts,rfl⟩:=hf
    obtain ⟨g1,g2⟩:=mapM_some_length hts
    obtain ⟨l',hl',hL,o,ho,hb⟩:=h.loc (hτ _ _ hk) (fun _ _ e=>by cases e)
    rw[hl] at hl';cases hl'
    cases hb with
    | rows _ _ _ hr=>simp[dL] at hr
    | map _ _ ents h1 h2 =>
     have hex:∀ i (hi:i<ts.length),∃ e,ents[i]? = some e∧e.key=ts[i].1∧e.born=i∧cE w own0 ts[i].2 e.val:=by
      intro i hi
      obtain ⟨e,a1,a2,a3,a4⟩:=h2 i (by omega)
      have g3:=g2 i (by omega) hi
      simp only[Option.map_eq_some_iff] at g3
      obtain ⟨t,g4,g5⟩:=g3
      refine ⟨e,a1,?_,a3,?_⟩
      ·rw[←g5];exact a2
      ·rw[←g5];exact ih a4 g4
     refine .mp ts l.bG ents (fun i=>ents.getD i ⟨undef,undef,0⟩) (hdis _ _ _ hk hl hL) ((h.new k l hl).2 hL).1 (by rw[g1];exact ho) (by omega) (fun i hi=>?_) (fun i hi=>?_)
     ·obtain ⟨e,a1,a2,a3,_⟩:=hex i hi
      rw[show ents.getD i ⟨undef,undef,0⟩=e by rw[Array.getD_eq_getD_getElem?,a1];rfl]
      exact ⟨a1,a2,a3⟩
     ·obtain ⟨e,a1,_,_,a4⟩:=hex i hi
      rw[show ents.getD i ⟨undef,undef,0⟩=e by rw[Array.getD_eq_getD_getElem?,a1];rfl]
      exact a4
   ·cases hf
  | it k l hl=>simp[gL] at hf
  | qI d v hd=>simp[gL] at hf
  | yV d=>simp[gL] at hf
  | any v=>simp[gL] at hf
theorem AA (h:Inv cx ρ σ n w) (m:Nat) {d:D} {t:T} {v:Value} (hd:Rd w (Own cx ρ σ) ρ d v) (hf:gL σ m d=some t):cE w cx.own t v :=
 z8 h (fun _ h=>.inl h) (fun _ _ h=>h) (fun _ _ _ _ hl hL=>h.AT7 hl hL) m hd hf
theorem BP {m:Nat} (ih:∀ {d:D} {t:T} {v:Value},Rd w (Own cx ρ σ) ρ d v→gL σ m d=some t→cE w cx.own t v) {ds:List D} {ts:List T} {vs:Array Value} (h:cT (Rd w (Own cx ρ σ) ρ) ds vs)
  (hf:ds.mapM (gL σ m)=some ts):cT (cE w cx.own) ts vs:=xE ih h hf
end
structure aN (P:Program) (f:FuncId) (g:List T→Option T):Prop where
 entry:∃ fn,P.funcs[f]? = some fn∧(fn.name == "runtime.NumGoroutine")=false∧fn.body.isNone=false
 calls:∀ (w:World) (own:Nat→Prop) (args:List T) (vs:Array Value) (r:T),Good P w→(∀ b,own b→b<w.heap.size)→cT (cE w own) args vs→g args=some r →
  Calls P f vs w (fun e w'=>∃ v,e = .returned v∧cE w' own r v∧Below w.heap.size w w')
structure J1 (P:Program) (f:FuncId) (c:Nat) (g:List T→Option T):Prop where
 entry:∃ fn,P.funcs[f]? = some fn∧(fn.name == "runtime.NumGoroutine")=false∧fn.body.isNone=false
 calls:∀ (w:World) (own:Nat→Prop) (args:List T) (vs:Array Value) (cs:List T),Good P w→(∀ b,own b→b<w.heap.size)→cT (cE w own) args vs→g args=some (.agg cs) →
  Calls P f vs w (fun e w'=>∃ vc:Array Value,e = .returned (.agg vc)∧Below w.heap.size w w'∧vc.size=cs.length∧∀ fl r0 rows,cs[c]? = some (.sl fl (r0::rows)) →
   ∃ bG sz C ty cc,(∀ i (h:i<cs.length),i≠c→cE w' (fun b=>own b∨b=bG) cs[i] (vc.getD i undef))∧vc.getD c undef = .slice (some ⟨bG,0,none⟩) (r0::rows).length C∧C≤maxLen∧w.heap.size≤bG ∧
    w'.heap[bG]? = some (.cells cc ty (0,0))∧dI w' (fun b=>own b∨b=bG) (fun _=>none) ⟨bG,sz,C,ty,(r0::rows).length⟩ (.cells cc ty (0,0)) (.arr false sz (r0::rows)))
structure eH (P:Program) (f:FuncId) (g:List T→Option (List (List T))):Prop where
 entry:∃ fn,P.funcs[f]? = some fn∧(fn.name == "runtime.NumGoroutine")=false∧fn.body.isNone=false
 calls:∀ (w:World) (own:Nat→Prop) (args:List T) (vs:Array Value) (rows:List (List T)),Good P w→(∀ b,own b→b<w.heap.size)→cT (cE w own) args vs→g args=some rows →
  Calls P f vs w (fun e w'=>∃ v,e = .returned v∧Below w.heap.size w w'∧(rows=[]→cE w' own (.sl false []) v) ∧
   (rows≠[]→∃ bG sz C ty c,v = .slice (some ⟨bG,0,none⟩) rows.length C∧C≤maxLen∧w.heap.size≤bG∧w'.heap[bG]? = some (.cells c ty (0,0)) ∧
    dI w' (fun b=>own b∨b=bG) (fun _=>none) ⟨bG,sz,C,ty,rows.length⟩ (.cells c ty (0,0)) (.arr false sz rows)))
structure VZ (P:Program) (f:FuncId) (g:List T→Option (List (List T))):Prop where
 entry:∃ fn,P.funcs[f]? = some fn∧(fn.name == "runtime.NumGoroutine")=false∧fn.body.isNone=false
 calls:∀ (w:World) (own:Nat→Prop) (args:List T) (vs:Array Value) (rows:List (List T)),Good P w→(∀ b,own b→b<w.heap.size)→cT (cE w own) args vs→g args=some rows →
  Calls P f vs w (fun e w'=>∃ v,e = .returned v∧Below w.heap.size w w'∧(rows=[]→cE w' own (.sl true []) v) ∧
   (rows≠[]→∃ bG sz C ty c,v = .slice (some ⟨bG,0,none⟩) rows.length C∧C≤maxLen∧w.heap.size≤bG∧w'.heap[bG]? = some (.cells c ty (0,0)) ∧
    dI w' (fun b=>own b∨b=bG) (fun _=>none) ⟨bG,sz,C,ty,rows.length⟩ (.cells c ty (0,0)) (.arr false sz rows)))
structure cF (P:Program) (f:FuncId) (g:List D→(Nat→Option a6)→Nat→Option (D×(Nat→Option a6)×Nat)):Prop where
 entry:∃ fn,P.funcs[f]? = some fn∧(fn.name == "runtime.NumGoroutine")=false∧fn.body.isNone=false
 calls:∀ (cx:Cx) (ρ:Nat→Option Loc) (σ:Nat→Option a6) (n:Nat) (w:World) (args:List D) (vs:Array Value) (d:D) (σ':Nat→Option a6) (n':Nat),cx.P=P→Good P w→Inv cx ρ σ n w→cT (Rd w (Own cx ρ σ) ρ) args vs →
  g args σ n=some (d,σ',n')→Calls P f vs w (fun e w'=>∃ v ρ',e = .returned v∧Inv cx ρ' σ' n' w'∧bJ cx ρ ρ' σ σ' w w'∧Rd w' (Own cx ρ' σ') ρ' d v)
structure o3 (P:Program) (f:FuncId) (g:List D→(Nat→Option a6)→Nat→Option T):Prop where
 entry:∃ fn,P.funcs[f]? = some fn∧(fn.name == "runtime.NumGoroutine")=false∧fn.body.isNone=false
 calls:∀ (cx:Cx) (ρ:Nat→Option Loc) (σ:Nat→Option a6) (n:Nat) (w:World) (args:List D) (vs:Array Value) (r:T),cx.P=P→Good P w→Inv cx ρ σ n w→cT (Rd w (Own cx ρ σ) ρ) args vs →
  g args σ n=some r→Calls P f vs w (fun e w'=>∃ v,e = .returned v∧cE w' (Own cx ρ σ) r v∧Below w.heap.size w w')
structure jS (P:Program) (f:FuncId) (g:List T→Option T):Prop where
 entry:∃ fn,P.funcs[f]? = some fn∧(fn.name == "runtime.NumGoroutine")=false∧fn.body.isNone=false
 calls:∀ (w:World) (own:Nat→Prop) (args:List T) (vs:Array Value) (r:T),Good P w→(∀ b,own b→b<w.heap.size)→cT (cE w own) args vs→g args=some r →
  Calls P f vs w (fun e w'=>∃ v,e = .returned v∧cE w' (fun b=>b<w.heap.size) r v∧Below w.heap.size w w')
def bI (es:List (ByteArray×Int)):List (Value×T):=es.map fun e=>(.string e.1,.v (.int .i64 e.2))
def q8 (g:List T→Option (List (ByteArray×Int))) (args:List T):Option T:=(g args).map fun es=>.mp (bI es)
def A46 (P:Program) (f:FuncId) (g:List T→Option T):Prop :=
 ∀ (w:World) (own:Nat→Prop) (args:List T) (vs:Array Value) (r:T),cT (cE w own) args vs→g args=some r→∃ v,(callFunc f vs).run P w = .ok (.value v) w∧cE w own r v
inductive Fn where
 | pure (g:List T→Option T)
 | fresh (g:List T→Option (List (List T)))
 | heap (g:List D→(Nat→Option a6)→Nat→Option (D×(Nat→Option a6)×Nat))
 | read (g:List D→(Nat→Option a6)→Nat→Option T)
 | perm (z:Nat) (g:List (List T)→Option (List (List T)))
 | mark
 | both (g:List D→(Nat→Option a6)→Nat→Option T) (h:List D→(Nat→Option a6)→Nat→Option (D×(Nat→Option a6)×Nat))
 | new (g:List T→Option T)
 | AL9 (g:List T→Option (List (ByteArray×Int)))
 | ext (g:List T→Option T)
 | LC (g:List T→Option (List (List T)))
 | grow (z:Nat) (g:List (List T)→List T→Option (List (List T)))
 | dup (z b:Nat)
 | room (z b:Nat)
 | part (c:Nat) (g:List T→Option T)
 | A3W (g:List T→Option T)
 | A7O (vs:List TypeId) (g:List T→Option T)
 | BA4 (g:List T→Option T)
 | AWL (g:List T→Option T)
def XJ (z:Nat) (g:List (List T)→Option (List (List T))):List D→(Nat→Option a6)→Nat→Option (D×(Nat→Option a6)×Nat):=fun args σ n=>match args with
 | [.own k]=>match σ k with
  | some (.arr false z' rows)=>match decide (z'=z) with
   | true=>(g rows).map fun rows'=>(.p (.v (.tuple #[])),bX σ k (some (.arr false z rows')),n+1)
   | false=>none
  | _=>none
 | _=>none
def lS (z:Nat) (g:List (List T)→List T→Option (List (List T))):List D→(Nat→Option a6)→Nat→Option (D×(Nat→Option a6)×Nat):=fun args σ n=>match args with
 | .own k::rest=>match σ k with
  | some (.arr false z' rows)=>match decide (z'=z),jW rest with
   | true,some ts=>(g rows ts).map fun rows'=>(.own n,bX (bX σ k none) n (some (.arr false z rows')),n+1)
   | _,_=>none
  | _=>none
 | _=>none
def AB (z b:Nat):List D→(Nat→Option a6)→Nat→Option (D×(Nat→Option a6)×Nat):=fun args σ n=>match args with
 | [.own k]=>match σ k with
  | some (.arr _ z' rows)=>match decide (z'=z)&&decide (rows.length*b≤140737488355328)&&decide (rows.length≤140737488355328) with
   | true=>some (.own n,bX σ n (some (.arr false z rows)),n+1)
   | false=>none
  | _=>none
 | [.p t]=>match eW t with
  | some (_,rows)=>match (rows.all fun r=>decide (r.length=z))&&decide (rows.length*b≤140737488355328)&&decide (rows.length≤140737488355328) with
   | true=>some (.own n,bX σ n (some (.arr false z rows)),n+1)
   | false=>none
  | none=>none
 | _=>none
def XL (z b:Nat):List D→(Nat→Option a6)→Nat→Option (D×(Nat→Option a6)×Nat):=fun args σ n=>match args with
 | [.p (.v (.slice none 0 0)),.p (.v (.int .i64 m))]=>match decide (0≤m)&&decide (m.toNat*b≤140737488355328)&&decide (m.toNat≤140737488355328) with
  | true=>some (.own n,bX σ n (some (.arr false z [])),n+1)
  | false=>none
 | _=>none
def AY4:List T→T
 | [t]=>t
 | ts=>.bU ts
def XI (g:List T→Option T):List D→(Nat→Option a6)→Nat→Option (D×(Nat→Option a6)×Nat):=fun args σ n=>match args with
 | .ptr k i j::rest=>match decide (i=0)&&decide (j=0),σ k with
  | true,some (.rows false [ds])=>match jW ds,jW rest with
   | some cs,some ts=>match g (.agg cs::ts) with
    | some (.bU (.agg cs'::ts'))=>match decide (cs'.length=cs.length) with
     | true=>some (.p (AY4 ts'),bX σ k (some (.rows false [cs'.map .p])),n+1)
     | false=>none
    | _=>none
   | _,_=>none
  | _,_=>none
 | _=>none
def uI (σ:Nat→Option a6):List (Nat×D)→Option (List (Nat×D)×(Nat→Option a6))
 | []=>some ([],σ)
 | (i,.own k)::r=>match σ k with
  | some (.arr false z rows)=>(uI (bX σ k none) r).map fun x=>((i,.p (.sl false rows))::x.1,x.2)
  | _=>none
 | (i,d)::r=>(uI σ r).map fun x=>((i,d)::x.1,x.2)
def T.canon:Nat→T→T
 | _,.sl _ rows=>.sl false rows
 | _,.v (.slice none 0 0)=>.sl false []
 | _,.ne _=>.sl false []
 | n+1,.agg cs=>.agg (cs.map (T.canon n))
 | n+1,.bU cs=>.bU (cs.map (T.canon n))
 | _,t=>t
def GS:List D→List D×List D
 | []=>([],[])
 | .ptr k i j::r=>([],.ptr k i j::r)
 | d::r=>(d::(GS r).1,(GS r).2)
def AYI:List D→Option (List Nat)
 | []=>some []
 | .ptr k i j::r=>match decide (i=0)&&decide (j=0) with
  | true=>(AYI r).map (k :: ·)
  | false=>none
 | _=>none
def A6G:List Nat→List Nat→Bool
 | [],[]=>true
 | a::l,b::m=>Nat.beq a b&&A6G l m
 | _,_=>false
def nodupB:List Nat→Bool
 | []=>true
 | a::l=>(l.all fun b=>!Nat.beq a b)&&nodupB l
def wR (σ:Nat→Option a6):List Nat→Option (List (List T))
 | []=>some []
 | k::r=>match σ k with
  | some (.rows false [ds])=>match jW ds,wR σ r with
   | some row,some rs=>some (row.map (T.canon 4)::rs)
   | _,_=>none
  | _=>none
def BD6 (f:FuncId) (σ:Nat→Option a6) (s:Nat) (ks:List Nat):Option (List T):=match σ s with
 | some (.rows _ [[.fn f' [] caps]])=>match decide (f'=f),jW (GS caps).1,AYI (GS caps).2 with
  | true,some vs,some ks'=>match A6G ks' ks with
   | true=>some (vs.map (T.canon 4))
   | false=>none
  | _,_,_=>none
 | _=>none
def SG (f:FuncId) (args:List D) (σ:Nat→Option a6):Option (List T×List (List T)×List Nat×(Nat→Option a6)) :=
 match uI σ ((GS args).1.map fun d=>(0,d)),AYI (GS args).2 with
 | some (ps,σ1),some ks=>match jW (ps.map (·.2)),ks.getLast?,nodupB ks with
  | some pre,some s,true=>match wR σ1 ks.dropLast,BD6 f σ1 s ks with
   | some rows,some vals=>some (.bU (pre.map (T.canon 4)) :: .bU vals::rows.map .agg,rows,ks.dropLast,σ1)
   | _,_=>none
  | _,_,_=>none
 | _,_=>none
def AE3:List (List T)→List T→Bool
 | [],_=>true
 | row::rows,.agg cs::ts=>Nat.beq cs.length row.length&&AE3 rows ts
 | _,_=>false
def AZR (σ:Nat→Option a6):List Nat→List T→(Nat→Option a6)
 | k::ks,.agg cs::ts=>AZR (bX σ k (some (.rows false [cs.map .p]))) ks ts
 | _,_=>σ
def XH (f:FuncId) (g:List T→Option T):List D→(Nat→Option a6)→Nat→Option (D×(Nat→Option a6)×Nat):=fun args σ n=>match SG f args σ with
 | some (ins,rows,kk,σ1)=>match g ins with
  | some (.bU ts)=>match AE3 rows ts with
   | true=>some (.p (AY4 (ts.drop rows.length)),AZR σ1 kk ts,n+1)
   | false=>none
  | _=>none
 | none=>none
def AI1 (args:List D) (σ:Nat→Option a6):Option (Nat×List T×List T×(Nat→Option a6)):=match args with
 | .ptr k i j::rest=>match decide (i=0)&&decide (j=0),uI σ (rest.map fun d=>(0,d)) with
  | true,some (ps,σ1)=>match σ1 k,jW (ps.map (·.2)) with
   | some (.rows false [ds]),some ts=>match jW ds with
    | some cs=>some (k,cs.map (T.canon 4),ts.map (T.canon 4),σ1)
    | none=>none
   | _,_=>none
  | _,_=>none
 | _=>none
def XK (g:List T→Option T):List D→(Nat→Option a6)→Nat→Option (D×(Nat→Option a6)×Nat):=fun args σ n=>match AI1 args σ with
 | some (k,cs,ts,σ1)=>match g (.agg cs::ts) with
  | some (.bU (.agg cs'::ts'))=>match Nat.beq cs'.length cs.length with
   | true=>some (.p (AY4 ts'),bX σ1 k (some (.rows false [cs'.map .p])),n+1)
   | false=>none
  | _=>none
 | none=>none
def AZ0 (k:Nat) (rows:List (List T)):D→D
 | .own j=>match Nat.beq j k with
  | true=>.p (.sl false rows)
  | false=>.own j
 | d=>d
def BBC (k:Nat) (rows:List (List T)):D→D
 | .agg cs=>.agg (cs.map (AZ0 k rows))
 | d=>AZ0 k rows d
def A0 (k:Nat) (rows:List (List T)):a6→a6
 | .rows false rs=>.rows false (rs.map fun r=>r.map (AZ0 k rows))
 | x=>x
def HX (σ:Nat→Option a6) (k:Nat) (rows:List (List T)):Nat→Option a6:=fun j=>match Nat.beq j k with
 | true=>none
 | false=>(σ j).map (A0 k rows)
def BD0:D→List Nat
 | .own k=>[k]
 | _=>[]
def A58:D→List Nat
 | .agg cs=>cs.flatMap BD0
 | d=>BD0 d
def HA (σ:Nat→Option a6):List Nat→List D→Option (List D×(Nat→Option a6))
 | [],args=>some (args,σ)
 | k::ks,args=>match σ k with
  | some (.arr false _ rows)=>HA (HX σ k rows) ks (args.map (BBC k rows))
  | none=>HA σ ks args
  | _=>none
def BQ (g:List T→Option T):List D→(Nat→Option a6)→Nat→Option (D×(Nat→Option a6)×Nat):=fun args σ n=>match HA σ (args.flatMap A58) args with
 | some (args',σ1)=>match args'.mapM (gL (fun _=>none) 2) with
  | some ts=>(g (ts.map (T.canon 4))).map fun r=>(.p r,σ1,n+1)
  | none=>none
 | none=>none
def BCE (P:Program) (f:FuncId):Fn→Prop
 | .pure g=>aN P f g
 | .fresh g=>eH P f g
 | .heap g=>cF P f g
 | .read g=>o3 P f g
 | .perm z g=>cF P f (XJ z g)
 | .mark=>True
 | .both g h=>o3 P f g∧cF P f h
 | .new g=>jS P f g
 | .AL9 g=>jS P f (q8 g)
 | .ext g=>A46 P f g
 | .LC g=>VZ P f g
 | .grow z g=>cF P f (lS z g)
 | .dup z y=>cF P f (AB z y)
 | .room z y=>cF P f (XL z y)
 | .part c g=>J1 P f c g
 | .A3W g=>cF P f (XI g)
 | .A7O _ g=>cF P f (XH f g)
 | .BA4 g=>cF P f (XK g)
 | .AWL g=>cF P f (BQ g)
def Env:=FuncId→Option Fn
def Env.of:List (FuncId×Fn)→Env
 | [],_=>none
 | (k,x)::r,f=>if k=f then some x else Env.of r f
def Env.marked (E:Env) (t:TypeId):Bool:=match E (1000000000+t) with
 | some .mark=>true
 | _=>false
def Env.still (E:Env) (t:TypeId):Bool:=match E (4000000000+t) with
 | some .mark=>true
 | _=>false
def Env.AWY (E:Env) (f:FuncId):Bool:=match E f with
 | some (.pure _)=>true
 | some (.read _)=>true
 | some (.new _)=>true
 | some (.AL9 _)=>true
 | some (.ext _)=>true
 | _=>false
def aQ (P:Program) (E:Env):Prop:=∀ f x,E f=some x→BCE P f x
def Env.view (E:Env) (draw:Bool):Env:=fun f=>match E f with
 | some (.both g h)=>match draw with
  | true=>some (.read g)
  | false=>some (.heap h)
 | x=>x
theorem aQ.view {P:Program} {E:Env} (h:aQ P E) (draw:Bool):aQ P (E.view draw):=by
 intro f x hx
 unfold Env.view at hx
 split at hx
 ·rename_i g k he
  have hk:o3 P f g∧cF P f k:=h f _ he
  split at hx
  ·cases hx;exact hk.1
  ·cases hx;exact hk.2
 ·exact h f x hx
theorem aQ.nil (P:Program):aQ P (Env.of []):=fun f x h=>by simp[Env.of] at h
theorem aQ.cons {P:Program} {l:List (FuncId×Fn)} {f:FuncId} {x:Fn} (h:BCE P f x) (hE:aQ P (Env.of l)):aQ P (Env.of ((f,x)::l)):=by
 intro f' x' hx
 simp only[Env.of] at hx
 split at hx
 ·rename_i e;cases hx;subst e;exact h
 ·exact hE f' x' hx
def T.qK:Nat→T→Bool
 | _,.v _=>true
 | n+1,.bU ts=>ts.all (T.qK n)
 | n+1,.agg ts=>ts.all (T.qK n)
 | _,_=>false
def T.flat (t:T):Bool:=T.qK 3 t
theorem cE.A35 {w:World} {own own':Nat→Prop}:∀ (n:Nat) {t:T} {v:Value},cE w own t v→T.qK n t=true→cE w own' t v:=by
 intro n
 induction n with
 | zero =>
  intro t v h hf
  cases h with
  | v=>exact .v _
  | _=>simp[T.qK] at hf
 | succ n ih =>
  intro t v h hf
  cases h with
  | v=>exact .v _
  | bU cs vs h1 h2 =>
   simp only[T.qK] at hf
   exact .bU cs vs h1 fun i hi=>ih (h2 i hi) (List.all_eq_true.1 hf _ (List.getElem_mem hi))
  | agg cs vs h1 h2 =>
   simp only[T.qK] at hf
   exact .agg cs vs h1 fun i hi=>ih (h2 i hi) (List.all_eq_true.1 hf _ (List.getElem_mem hi))
  | _=>simp[T.qK] at hf
theorem cE.FO {w:World} {own own':Nat→Prop} {t:T} {v:Value} (h:cE w own t v) (hf:t.flat=true):cE w own' t v:=cE.A35 3 h hf
def iW (c:D):Option (FuncId×List D×List D) :=
 match c with
 | .p (.fn f a b)=>some (f,a.map .p,b.map .p)
 | .fn f a b=>some (f,a,b)
 | _=>none
def o7 (E:Env) (σ:Nat→Option a6) (n:Nat) (c:D) (args:List D):Option D :=
 match iW c with
 | some (f,a,b) =>
  match E f with
  | some (.pure g) =>
   match jW (a++args++b) with
   | some ts=>(g ts).map .p
   | none =>
    match (a++args++b).mapM (gL σ 4) with
    | some ts=>match g ts with
     | some r=>if r.flat then some (.p r) else none
     | none=>none
    | none=>none
  | some (.read g)=>(g (a++args++b) σ n).map .p
  | some (.new g)=>match (a++args++b).mapM (gL σ 4) with
   | some ts=>(g ts).map .p
   | none=>none
  | some (.AL9 g)=>match (a++args++b).mapM (gL σ 4) with
   | some ts=>(g ts).map fun es=>.p (.mp (bI es))
   | none=>none
  | some (.ext g)=>match jW (a++args++b) with
   | some ts=>(g ts).map .p
   | none=>none
  | _=>none
 | none=>none
section
variable {cx : Cx} {ρ : Nat → Option Loc} {σ : Nat → Option a6} {n : Nat} {w : World}
theorem EM {own:Nat→Prop} {c:D} {x:Value} {f:FuncId} {a b:List D} (hc:Rd w own ρ c x) (h:iW c=some (f,a,b)):∃ va vb,x = .func (.func f) va vb∧cT (Rd w own ρ) a va∧cT (Rd w own ρ) b vb:=by
 unfold iW at h
 split at h
 ·cases h
  cases hc with
  | p _ _ hc =>
  cases hc with
  | fn _ _ _ va vb h1 h2 h3 h4=>exact ⟨va,vb,rfl,cT.map (R:=cE w own) _ ⟨h1,h3⟩ (fun _ _ h=>.p _ _ h),cT.map (R:=cE w own) _ ⟨h2,h4⟩ (fun _ _ h=>.p _ _ h)⟩
 ·cases h
  cases hc with
  | fn _ _ _ va vb h1 h2 h3 h4=>exact ⟨va,vb,rfl,⟨h1,h3⟩,⟨h2,h4⟩⟩
 ·cases h
theorem sN {own:Nat→Prop} {ds:List D} {ts:List T} {vs:Array Value} (h:cT (Rd w own ρ) ds vs) (ht:jW ds=some ts):cT (cE w own) ts vs:=by
 have e:=jJ ht
 subst e
 refine ⟨by simpa using h.1,fun i hi=>?_⟩
 have:=h.2 i (by simpa using hi)
 simp only[List.getElem_map] at this
 cases this with
 | p _ _ h=>exact h
theorem WN {E:Env} (hE:aQ cx.P E) (hI:Inv cx ρ σ n w) (hG:Good cx.P w) {c:D} {x:Value} {args:List D} {vargs:Array Value} {r:D} (hc:Rd w (Own cx ρ σ) ρ c x) (ha:cT (Rd w (Own cx ρ σ) ρ) args vargs)
  (h:o7 E σ n c args=some r):(∃ f as,(do let d ←Deferred.ofValue x vargs;invoke d.target d.args:Sem Next).run cx.P w = .ok (.enter f as) w ∧
   Calls cx.P f as w (fun e w'=>∃ v,e = .returned v∧Rd w' (Own cx ρ σ) ρ r v∧Below w.heap.size w w')) ∨
   ∃ v,(do let d ←Deferred.ofValue x vargs;invoke d.target d.args:Sem Next).run cx.P w = .ok (.value v) w∧Rd w (Own cx ρ σ) ρ r v:=by
 have newC:∀ {f:FuncId} {g:List T→Option T} {ds:List D} {va vb:Array Value} {ts:List T} {r':T},jS cx.P f g→cT (Rd w (Own cx ρ σ) ρ) ds (va++vargs++vb)→ds.mapM (gL σ 4)=some ts→g ts=some r' →
   ∃ f' as,(do let d ←Deferred.ofValue (.func (.func f) va vb) vargs;invoke d.target d.args:Sem Next).run cx.P w = .ok (.enter f' as) w∧Calls cx.P f' as w (fun e w'=>∃ v,e = .returned v∧Rd w' (Own cx ρ σ) ρ (.p r') v∧Below w.heap.size w w'):=by
  intro f g ds va vb ts r' hf hargs hts hr
  obtain ⟨fn,e1,e2,e3⟩:=hf.entry
  refine ⟨f,va++vargs++vb,?_,?_⟩
  ·have e2':¬ fn.name = "runtime.NumGoroutine" := by simpa using e2
   have e3':¬ fn.body=none:=by intro h;simp[h] at e3
   simp[Deferred.ofValue,invoke,callFunc,e1,e2',e3']
  ·have hts':=BP (fun hd ht=>AA hI 4 hd ht) hargs hts
   refine (hf.calls w cx.own ts _ r' hG (fun b hb=>by have:=hI.jG b hb;have:=hI.below.size;omega) hts' hr).mono ?_
   rintro e w' ⟨v,rfl,h3,h4⟩
   exact ⟨v,rfl,.p _ _ (h3.less fun b hb=>Own.lt hI hb),h4⟩
 unfold o7 at h
 split at h
 ·rename_i f a b hcal
  obtain ⟨va,vb,rfl,h1,h2⟩:=EM hc hcal
  split at h
  ·rename_i g hg
   have hf:aN cx.P f g:=hE f _ hg
   obtain ⟨fn,e1,e2,e3⟩:=hf.entry
   have hargs:cT (Rd w (Own cx ρ σ) ρ) (a++args++b) (va++vargs++vb):=(h1.append ha).append h2
   refine .inl ⟨f,va++vargs++vb,?_,?_⟩
   ·have e2':¬ fn.name = "runtime.NumGoroutine" := by simpa using e2
    have e3':¬ fn.body=none:=by intro h;simp[h] at e3
    simp[Deferred.ofValue,invoke,callFunc,e1,e2',e3']
   ·split at h
    ·rename_i ts hts
     simp only[Option.map_eq_some_iff] at h
     obtain ⟨r',hr,rfl⟩:=h
     refine (hf.calls w (Own cx ρ σ) ts _ r' hG (fun b hb=>Own.lt hI hb) (sN hargs hts) hr).mono ?_
     rintro e w' ⟨v,rfl,h3,h4⟩
     exact ⟨v,rfl,.p _ _ h3,h4⟩
    ·split at h
     ·rename_i ts hts
      split at h
      ·rename_i r' hr
       split at h
       ·rename_i hfl
        cases h
        have hts':=BP (fun hd ht=>AA hI 4 hd ht) hargs hts
        refine (hf.calls w cx.own ts _ r' hG (fun b hb=>by have:=hI.jG b hb;have:=hI.below.size;omega) hts' hr).mono ?_
        rintro e w' ⟨v,rfl,h3,h4⟩
        exact ⟨v,rfl,.p _ _ (h3.FO hfl),h4⟩
       ·cases h
      ·cases h
     ·cases h
  ·rename_i g hg
   have hf:o3 cx.P f g:=hE f _ hg
   obtain ⟨fn,e1,e2,e3⟩:=hf.entry
   have hargs:cT (Rd w (Own cx ρ σ) ρ) (a++args++b) (va++vargs++vb):=(h1.append ha).append h2
   refine .inl ⟨f,va++vargs++vb,?_,?_⟩
   ·have e2':¬ fn.name = "runtime.NumGoroutine" := by simpa using e2
    have e3':¬ fn.body=none:=by intro h;simp[h] at e3
    simp[Deferred.ofValue,invoke,callFunc,e1,e2',e3']
   ·simp only[Option.map_eq_some_iff] at h
    obtain ⟨r',hr,rfl⟩:=h
    refine (hf.calls cx ρ σ n w _ _ r' rfl hG hI hargs hr).mono ?_
    rintro e w' ⟨v,rfl,h3,h4⟩
    exact ⟨v,rfl,.p _ _ h3,h4⟩
  ·rename_i g hg
   split at h
   ·rename_i ts hts
    simp only[Option.map_eq_some_iff] at h
    obtain ⟨r',hr,rfl⟩:=h
    exact .inl (newC (hE f _ hg) ((h1.append ha).append h2) hts hr)
   ·cases h
  ·rename_i g hg
   split at h
   ·rename_i ts hts
    simp only[Option.map_eq_some_iff] at h
    obtain ⟨es,hr,rfl⟩:=h
    exact .inl (newC (g:=q8 g) (hE f _ hg) ((h1.append ha).append h2) hts (by simp[q8,hr]))
   ·cases h
  ·rename_i g hg
   have hf:A46 cx.P f g:=hE f _ hg
   have hargs:cT (Rd w (Own cx ρ σ) ρ) (a++args++b) (va++vargs++vb):=(h1.append ha).append h2
   split at h
   ·rename_i ts hts
    simp only[Option.map_eq_some_iff] at h
    obtain ⟨r',hr,rfl⟩:=h
    obtain ⟨v,h3,h4⟩:=hf w _ ts _ r' (sN hargs hts) hr
    refine .inr ⟨v,?_,.p _ _ h4⟩
    simpa [Deferred.ofValue,invoke] using h3
   ·cases h
  ·cases h
 ·cases h
end
end Go.Pv
