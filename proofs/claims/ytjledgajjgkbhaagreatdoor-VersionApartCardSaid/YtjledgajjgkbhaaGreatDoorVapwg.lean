/-
  The pure evaluator, part g: frozen data, calls of functions that are known, and the operations that leave the boxes alone, all together.
-/
import Derived.Test.YtjledgajjgkbhaaGreatDoorVapwf
set_option linter.defProp false
set_option linter.unusedSimpArgs false
namespace Go.Pv
open Go Go.RowKit
def iA (σ:Nat→Option bB):Nat→D→Option T
 | _,.p t=>some t
 | n+1,.agg cs=>(cs.mapM (iA σ n)).map .agg
 | n+1,.bZ cs=>(cs.mapM (iA σ n)).map .bZ
 | n+1,.fn f a b=>match a.mapM (iA σ n),b.mapM (iA σ n) with
  | some a,some b=>some (.fn f a b)
  | _,_=>none
 | n+1,.ptr k i j =>
  match (σ k).bind eC with
  | some rs=>match rs[i]? with
   | some r=>if j<r.length then ((r.drop j).mapM (iA σ n)).map .ref else none
   | none=>none
  | _=>none
 | n+1,.own k =>
  match σ k with
  | some (.arr _ _ rows)=>some (.sl false rows)
  | some (.rows _ rs)=>(rs.mapM fun (r:List D)=>r.mapM (iA σ n)).map (.sl false)
  | _=>none
 | n+1,.bs k off len =>
  match σ k with
  | some (.arr _ _ rows)=>if off+len≤rows.length then some (.sl false ((rows.drop off).take len)) else none
  | some (.rows _ rs)=>if off+len≤rs.length then (((rs.drop off).take len).mapM fun (r:List D)=>r.mapM (iA σ n)).map (.sl false) else none
  | _=>none
 | n+1,.map k =>
  match σ k with
  | some (.map _ es)=>(es.mapM fun (e:Value×D)=>(iA σ n e.2).map fun t=>(e.1,t)).map .mp
  | _=>none
 | _,_=>none
section
variable {cx : Cx} {ρ : Nat → Option Loc} {σ : Nat → Option bB} {n : Nat} {w : World}
theorem Inv.AWW (h:Inv cx ρ σ n w) {k:Nat} {l:Loc} (hl:ρ k=some l) (hL:0<l.L+l.C):¬ cx.own l.bJ:=((h.new k l hl).2 hL).2
theorem cN.less {own own':Nat→Prop} (ho:∀ b,own' b→own b) {t:T} {v:Value} (h:cN w own t v):cN w own' t v :=
 h.mono (fun _ _ _=>rfl) (Nat.le_refl _) (fun b _ hn hc=>hn (ho b hc))
theorem EE {own own0:Nat→Prop} {τ:Nat→Option bB} {m:Nat} (ih:∀ {d:D} {t:T} {v:Value},Rd w own ρ d v→iA τ m d=some t→cN w own0 t v) {ds:List D} {ts:List T} {vs:Array Value} (h:cZ (Rd w own ρ) ds vs)
  (hf:ds.mapM (iA τ m)=some ts):cZ (cN w own0) ts vs:=by
 obtain ⟨h1,h2⟩:=mapM_some_length hf
 refine ⟨by rw[h1];exact h.1,fun i hi=>?_⟩
 exact ih (h.2 i (by omega)) (h2 i (by omega) hi)
theorem BEI (τ:Nat→Option bB) (m:Nat) (t:T):iA τ m (.p t)=some t:=by cases m<;>rfl
theorem OB (τ:Nat→Option bB) (m:Nat):∀ (r:List T),(r.map D.p).mapM (iA τ m)=some r
 | []=>rfl
 | t::r=>by simp only[List.map_cons,List.mapM_cons,BEI,OB τ m r];rfl
theorem HM (τ:Nat→Option bB) (m:Nat):∀ (rows:List (List T)),(aU rows).mapM (fun (r:List D)=>r.mapM (iA τ m))=some rows
 | []=>rfl
 | r::rows=>by
  have:=HM τ m rows
  simp only[aU,List.map_cons,List.mapM_cons] at this ⊢
  simp only[OB,this]
  rfl
theorem JO {own0:Nat→Prop} {τ:Nat→Option bB} {m:Nat} (h:Inv cx ρ σ n w) {k:Nat} {rs:List (List D)} (hk:(σ k).bind eC=some rs) {l:Loc} (hl:ρ k=some l) (hL:0<l.L+l.C) (_:l.C≤maxLen) (hdis:¬ own0 l.bJ)
  (ih:∀ {d:D} {t:T} {v:Value},Rd w (bL cx ρ σ) ρ d v→iA τ m d=some t→cN w own0 t v) {off len:Nat} (hle:off+len≤rs.length) {rows:List (List T)} (hrows:((rs.drop off).take len).mapM (fun (r:List D)=>r.mapM (iA τ m))=some rows) (hpos:0<len) :
  cN w own0 (.sl false rows) (.slice (some ⟨l.bJ,off*l.sz,none⟩) len (l.C-off)):=by
 obtain ⟨g1,g2⟩:=mapM_some_length hrows
 obtain ⟨l',c,hl',_,_,hb⟩:=h.rows hk (by intro e;subst e;simp at hle;omega)
 rw[hl] at hl';cases hl'
 have hlen:rows.length=len:=by rw[g1];simp;omega
 have hpos:0<rows.length:=by omega
 have hrow:∀ i (hi:i<rows.length),∃ (h2:off+i<rs.length),rs[off+i].mapM (iA τ m)=some rows[i]:=by
  intro i hi
  have:=g2 i (by omega) hi
  refine ⟨by omega,?_⟩
  simpa using this
 have hw:∀ i (hi:i<rows.length),rows[i].length=l.sz:=by
  intro i hi
  obtain ⟨h2,h3⟩:=hrow i hi
  rw[(mapM_some_length h3).1]
  exact hb.width _ (List.getElem_mem h2)
 have hcell:∀ i j (hi:i<rows.length) (hj:j<l.sz),∃ u,w.cell? ⟨l.bJ,off*l.sz+i*l.sz+j,none⟩=some u∧u.oneCell'=true∧∀ (hj:j<rows[i].length),cN w own0 rows[i][j] u:=by
  intro i j hi hj
  obtain ⟨h2,h3⟩:=hrow i hi
  obtain ⟨e1,e2⟩:=mapM_some_length h3
  have hwid:=hb.width _ (List.getElem_mem h2)
  obtain ⟨u,u1,u2,u3⟩:=h.cellOf hk (i:=off+i) (r:=rs[off+i]) (by simp[h2]) (j:=j) (by omega) hl
  refine ⟨u,by rw[←Nat.add_mul];exact u1,u3,fun hj'=>ih u2 (e2 j (by omega) hj')⟩
 have hex:∃ f:Nat→Nat→Value,∀ i j (hi:i<rows.length) (hj:j<l.sz),w.cell? ⟨l.bJ,off*l.sz+i*l.sz+j,none⟩=some (f i j)∧(f i j).oneCell'=true∧∀ (hj:j<rows[i].length),cN w own0 rows[i][j] (f i j):=by
  refine ⟨fun i j=>if hij:i<rows.length∧j<l.sz then Classical.choose (hcell i j hij.1 hij.2) else undef,fun i j hi hj=>?_⟩
  have hs:=Classical.choose_spec (hcell i j hi hj)
  simp only[dif_pos (show i<rows.length∧j<l.sz from ⟨hi,hj⟩)]
  exact hs
 obtain ⟨f,hf⟩:=hex
 rw[←hlen]
 have hsm:=hb.small
 have hCl:=hb.len
 exact .sl false rows l.sz l.bJ (off*l.sz) (l.C-off) f (by omega) (by omega) (by simp) hdis ((h.new k l hl).2 hL).1 (fun r hr=>by
  obtain ⟨i,hi,rfl⟩:=List.mem_iff_getElem.1 hr
  exact hw i hi) hb.pos (fun i j hi hj=>⟨(hf i j hi hj).1,(hf i j hi hj).2.1⟩) (fun i j hi hj=>(hf i j hi (by rw[←hw i hi];exact hj)).2.2 hj)
theorem xH {own0:Nat→Prop} {τ:Nat→Option bB} (h:Inv cx ρ σ n w) (h0:∀ b,own0 b→bL cx ρ σ b) (hτ:∀ k x,τ k=some x→σ k=some x) (hd:∀ k x l,τ k=some x→ρ k=some l→0<l.L+l.C→¬ own0 l.bJ) :
  ∀ (m:Nat) {d:D} {t:T} {v:Value},Rd w (bL cx ρ σ) ρ d v→iA τ m d=some t→cN w own0 t v:=by
 have hdis:=hd
 clear hd
 intro m
 induction m with
 | zero =>
  intro d t v hd hf
  cases d<;>simp[iA] at hf
  subst hf
  cases hd with
  | p _ _ hd=>exact hd.less h0
 | succ m ih =>
  intro d t v hd hf
  cases hd with
  | p t' _ hd=>simp[iA] at hf;subst hf;exact hd.less h0
  | agg cs vs h1 h2 =>
   simp only[iA,Option.map_eq_some_iff] at hf
   obtain ⟨ts,hts,rfl⟩:=hf
   have:=EE ih ⟨h1,h2⟩ hts
   exact .agg _ _ this.1 this.2
  | bZ cs vs h1 h2 =>
   simp only[iA,Option.map_eq_some_iff] at hf
   obtain ⟨ts,hts,rfl⟩:=hf
   have:=EE ih ⟨h1,h2⟩ hts
   exact .bZ _ _ this.1 this.2
  | fn f fs cs va vb h1 h2 h3 h4 =>
   simp only[iA] at hf
   split at hf
   ·rename_i a b ha hb
    cases hf
    have k1:=EE ih ⟨h1,h3⟩ ha
    have k2:=EE ih ⟨h2,h4⟩ hb
    exact .fn _ _ _ _ _ k1.1 k2.1 k1.2 k2.2
   ·cases hf
  | ptr k i j l hl =>
   simp only[iA] at hf
   split at hf
   ·rename_i rs hk
    have hk':(σ k).bind eC=some rs:=by
     simp only[Option.bind_eq_some_iff] at hk ⊢
     obtain ⟨x,hx,hr⟩:=hk
     exact ⟨x,hτ _ _ hx,hr⟩
    obtain ⟨x0,hx0,_⟩:=Option.bind_eq_some_iff.1 hk
    split at hf
    ·rename_i r hr
     split at hf
     ·rename_i hj
      simp only[Option.map_eq_some_iff] at hf
      obtain ⟨ts,hts,rfl⟩:=hf
      obtain ⟨g1,g2⟩:=mapM_some_length hts
      have hcell:=fun q hq=>h.cellOf hk' hr (j:=j+q) hq hl
      have hL:0<l.L+l.C:=by
       obtain ⟨l',c,hl',hL,_⟩:=h.rows hk' (lB hr)
       rw[hl] at hl';cases hl';exact hL
      have hex:∃ f:Nat→Value,∀ q,q<ts.length→w.cell? ⟨l.bJ,(i*l.sz+j)+q,none⟩=some (f q)∧(f q).oneCell'=true∧∀ (hq:q<ts.length),cN w own0 ts[q] (f q):=by
       refine ⟨fun q=>if hq:j+q<r.length then Classical.choose (hcell q hq) else undef,fun q hq=>?_⟩
       have hq':j+q<r.length:=by rw[g1] at hq;simp at hq;omega
       have hs:=Classical.choose_spec (hcell q hq')
       simp only[dif_pos hq']
       refine ⟨by rw[Nat.add_assoc];exact hs.1,hs.2.2,fun _=>ih hs.2.1 ?_⟩
       have:=g2 q (by omega) hq
       simpa using this
      obtain ⟨f,hf⟩:=hex
      exact .ref ts l.bJ _ f (hdis _ _ _ hx0 hl hL) ((h.new k l hl).2 hL).1 (fun q hq=>⟨(hf q hq).1,(hf q hq).2.1⟩) (fun q hq=>(hf q hq).2.2 hq)
     ·cases hf
    ·cases hf
   ·cases hf
  | own k l hl h0 hc1 hc2 =>
   have key:∃ (x:bB) (rs:List (List D)) (rows:List (List T)),τ k=some x∧eC x=some rs∧rs.mapM (fun (r:List D)=>r.mapM (iA τ m))=some rows∧t = .sl false rows:=by
    simp only[iA] at hf
    split at hf
    ·rename_i ro z rows hk
     cases hf
     exact ⟨_,_,rows,hk,rfl,HM τ m rows,rfl⟩
    ·rename_i ro rs hk
     simp only[Option.map_eq_some_iff] at hf
     obtain ⟨rows,h1,rfl⟩:=hf
     exact ⟨_,rs,rows,hk,rfl,h1,rfl⟩
    ·cases hf
   obtain ⟨x,rs,rows,hk,hr,hrows,rfl⟩:=key
   have hk':(σ k).bind eC=some rs:=by rw[hτ _ _ hk];exact hr
   have hL:=h.lC hk' hl
   by_cases hz0:l.L=0
   ·have hlen:=(mapM_some_length hrows).1
    have:rows=[]:=List.eq_nil_of_length_eq_zero (by omega)
    subst this
    rw[hz0]
    exact .cQ false _ _ (by simp) (by simp)
   have:=JO h hk' hl h0 hc2 (hdis _ _ _ hk hl h0) ih (off:=0) (len:=rs.length) (by omega) (by simpa using hrows) (by omega)
   rw[hL] at this
   simpa using this
  | c0 k l a hl h0 =>
   have hrs:∀ ro z rows,τ k=some (.arr ro z rows)→rows=[]:=by
    intro ro z rows hk
    have:=h.lC (k:=k) (rs:=aU rows) (by rw[hτ _ _ hk];rfl) hl
    rw[show l.L=0 by omega] at this
    simpa using this
   simp only[iA] at hf
   split at hf
   ·rename_i ro z rows hk
    cases hf
    rw[hrs ro z rows hk]
    exact .cQ false a 0 (by simp) (by simp)
   ·rename_i ro rs hk
    simp only[Option.map_eq_some_iff] at hf
    obtain ⟨rows,h1,rfl⟩:=hf
    have:=h.lC (k:=k) (rs:=rs) (by rw[hτ _ _ hk];rfl) hl
    rw[show l.L=0 by omega] at this
    have h2:=(mapM_some_length h1).1
    rw[this] at h2
    rw[List.length_eq_zero_iff.1 h2]
    exact .cQ false a 0 (by simp) (by simp)
   ·cases hf
  | bs k off len l hl hc1 hc2 =>
   have key:∃ (x:bB) (rs:List (List D)) (rows:List (List T)),τ k=some x∧eC x=some rs∧off+len≤rs.length∧((rs.drop off).take len).mapM (fun (r:List D)=>r.mapM (iA τ m))=some rows∧t = .sl false rows:=by
    simp only[iA] at hf
    split at hf
    ·rename_i ro z rows hk
     split at hf
     ·rename_i hle
      cases hf
      refine ⟨_,_,_,hk,rfl,by simpa using hle,?_,rfl⟩
      have:=HM τ m ((rows.drop off).take len)
      simpa [aU,List.map_drop,List.map_take] using this
     ·cases hf
    ·rename_i ro rs hk
     split at hf
     ·rename_i hle
      simp only[Option.map_eq_some_iff] at hf
      obtain ⟨rows,h1,rfl⟩:=hf
      exact ⟨_,rs,rows,hk,rfl,hle,h1,rfl⟩
     ·cases hf
    ·cases hf
   obtain ⟨x,rs,rows,hk,hr,hle,hrows,rfl⟩:=key
   have hk':(σ k).bind eC=some rs:=by rw[hτ _ _ hk];exact hr
   have hlen:rows.length=len:=by rw[(mapM_some_length hrows).1];simp;omega
   by_cases he:rows=[]
   ·subst he
    simp at hlen
    subst hlen
    exact .cQ false _ _ (by simp) (by simp)
   ·have hpos:0<rows.length:=List.length_pos_iff.2 he
    obtain ⟨l',_,hl',hL,_⟩:=h.rows hk' (by intro e;subst e;simp at hle;omega)
    rw[hl] at hl';cases hl'
    have:=JO h hk' hl hL hc2 (hdis _ _ _ hk hl hL) ih hle hrows (by omega)
    exact this
  | map k l hl =>
   simp only[iA] at hf
   split at hf
   ·rename_i ro es hk
    simp only[Option.map_eq_some_iff] at hf
    obtain ⟨ts,hts,rfl⟩:=hf
    obtain ⟨g1,g2⟩:=mapM_some_length hts
    obtain ⟨l',hl',hL,o,ho,hb⟩:=h.loc (hτ _ _ hk) (fun _ _ e=>by cases e)
    rw[hl] at hl';cases hl'
    cases hb with
    | rows _ _ _ hr=>simp[eC] at hr
    | map _ _ ents h1 h2 =>
     have hex:∀ i (hi:i<ts.length),∃ e,ents[i]? = some e∧e.key=ts[i].1∧e.born=i∧cN w own0 ts[i].2 e.val:=by
      intro i hi
      obtain ⟨e,a1,a2,a3,a4⟩:=h2 i (by omega)
      have g3:=g2 i (by omega) hi
      simp only[Option.map_eq_some_iff] at g3
      obtain ⟨t,g4,g5⟩:=g3
      refine ⟨e,a1,?_,a3,?_⟩
      ·rw[←g5];exact a2
      ·rw[←g5];exact ih a4 g4
     refine .mp ts l.bJ ents (fun i=>ents.getD i ⟨undef,undef,0⟩) (hdis _ _ _ hk hl hL) ((h.new k l hl).2 hL).1 (by rw[g1];exact ho) (by omega) (fun i hi=>?_) (fun i hi=>?_)
     ·obtain ⟨e,a1,a2,a3,_⟩:=hex i hi
      rw[show ents.getD i ⟨undef,undef,0⟩=e by rw[Array.getD_eq_getD_getElem?,a1];rfl]
      exact ⟨a1,a2,a3⟩
     ·obtain ⟨e,a1,_,_,a4⟩:=hex i hi
      rw[show ents.getD i ⟨undef,undef,0⟩=e by rw[Array.getD_eq_getD_getElem?,a1];rfl]
      exact a4
   ·cases hf
  | it k l hl=>simp[iA] at hf
  | rL d v hd=>simp[iA] at hf
  | AZ d=>simp[iA] at hf
  | any v=>simp[iA] at hf
theorem CE (h:Inv cx ρ σ n w) (m:Nat) {d:D} {t:T} {v:Value} (hd:Rd w (bL cx ρ σ) ρ d v) (hf:iA σ m d=some t):cN w cx.own t v :=
 xH h (fun _ h=>.inl h) (fun _ _ h=>h) (fun _ _ _ _ hl hL=>h.AWW hl hL) m hd hf
theorem EF {m:Nat} (ih:∀ {d:D} {t:T} {v:Value},Rd w (bL cx ρ σ) ρ d v→iA σ m d=some t→cN w cx.own t v) {ds:List D} {ts:List T} {vs:Array Value} (h:cZ (Rd w (bL cx ρ σ) ρ) ds vs)
  (hf:ds.mapM (iA σ m)=some ts):cZ (cN w cx.own) ts vs:=EE ih h hf
end
structure aN (P:Program) (f:FuncId) (g:List T→Option T):Prop where
 entry:∃ fn,P.funcs[f]? = some fn∧(fn.name == "runtime.NumGoroutine")=false∧fn.body.isNone=false
 calls:∀ (w:World) (own:Nat→Prop) (args:List T) (vs:Array Value) (r:T),Good P w→(∀ b,own b→b<w.heap.size)→cZ (cN w own) args vs→g args=some r →
  Calls P f vs w (fun e w'=>∃ v,e = .returned v∧cN w' own r v∧Below w.heap.size w w')
structure MY (P:Program) (f:FuncId) (c:Nat) (g:List T→Option T):Prop where
 entry:∃ fn,P.funcs[f]? = some fn∧(fn.name == "runtime.NumGoroutine")=false∧fn.body.isNone=false
 calls:∀ (w:World) (own:Nat→Prop) (args:List T) (vs:Array Value) (cs:List T),Good P w→(∀ b,own b→b<w.heap.size)→cZ (cN w own) args vs→g args=some (.agg cs) →
  Calls P f vs w (fun e w'=>∃ vc:Array Value,e = .returned (.agg vc)∧Below w.heap.size w w'∧vc.size=cs.length∧∀ fl r0 rows,cs[c]? = some (.sl fl (r0::rows)) →
   ∃ bJ sz C ty cc,(∀ i (h:i<cs.length),i≠c→cN w' (fun b=>own b∨b=bJ) cs[i] (vc.getD i undef))∧vc.getD c undef = .slice (some ⟨bJ,0,none⟩) (r0::rows).length C∧C≤maxLen∧w.heap.size≤bJ ∧
    w'.heap[bJ]? = some (.cells cc ty (0,0))∧dV w' (fun b=>own b∨b=bJ) (fun _=>none) ⟨bJ,sz,C,ty,(r0::rows).length⟩ (.cells cc ty (0,0)) (.arr false sz (r0::rows)))
structure e6 (P:Program) (f:FuncId) (g:List T→Option (List (List T))):Prop where
 entry:∃ fn,P.funcs[f]? = some fn∧(fn.name == "runtime.NumGoroutine")=false∧fn.body.isNone=false
 calls:∀ (w:World) (own:Nat→Prop) (args:List T) (vs:Array Value) (rows:List (List T)),Good P w→(∀ b,own b→b<w.heap.size)→cZ (cN w own) args vs→g args=some rows →
  Calls P f vs w (fun e w'=>∃ v,e = .returned v∧Below w.heap.size w w'∧(rows=[]→cN w' own (.sl false []) v) ∧
   (rows≠[]→∃ bJ sz C ty c,v = .slice (some ⟨bJ,0,none⟩) rows.length C∧C≤maxLen∧w.heap.size≤bJ∧w'.heap[bJ]? = some (.cells c ty (0,0)) ∧
    dV w' (fun b=>own b∨b=bJ) (fun _=>none) ⟨bJ,sz,C,ty,rows.length⟩ (.cells c ty (0,0)) (.arr false sz rows)))
structure ZV (P:Program) (f:FuncId) (g:List T→Option (List (List T))):Prop where
 entry:∃ fn,P.funcs[f]? = some fn∧(fn.name == "runtime.NumGoroutine")=false∧fn.body.isNone=false
 calls:∀ (w:World) (own:Nat→Prop) (args:List T) (vs:Array Value) (rows:List (List T)),Good P w→(∀ b,own b→b<w.heap.size)→cZ (cN w own) args vs→g args=some rows →
  Calls P f vs w (fun e w'=>∃ v,e = .returned v∧Below w.heap.size w w'∧(rows=[]→cN w' own (.sl true []) v) ∧
   (rows≠[]→∃ bJ sz C ty c,v = .slice (some ⟨bJ,0,none⟩) rows.length C∧C≤maxLen∧w.heap.size≤bJ∧w'.heap[bJ]? = some (.cells c ty (0,0)) ∧
    dV w' (fun b=>own b∨b=bJ) (fun _=>none) ⟨bJ,sz,C,ty,rows.length⟩ (.cells c ty (0,0)) (.arr false sz rows)))
structure cY (P:Program) (f:FuncId) (g:List D→(Nat→Option bB)→Nat→Option (D×(Nat→Option bB)×Nat)):Prop where
 entry:∃ fn,P.funcs[f]? = some fn∧(fn.name == "runtime.NumGoroutine")=false∧fn.body.isNone=false
 calls:∀ (cx:Cx) (ρ:Nat→Option Loc) (σ:Nat→Option bB) (n:Nat) (w:World) (args:List D) (vs:Array Value) (d:D) (σ':Nat→Option bB) (n':Nat),cx.P=P→Good P w→Inv cx ρ σ n w→cZ (Rd w (bL cx ρ σ) ρ) args vs →
  g args σ n=some (d,σ',n')→Calls P f vs w (fun e w'=>∃ v ρ',e = .returned v∧Inv cx ρ' σ' n' w'∧bO cx ρ ρ' σ σ' w w'∧Rd w' (bL cx ρ' σ') ρ' d v)
structure lM (P:Program) (f:FuncId) (g:List D→(Nat→Option bB)→Nat→Option T):Prop where
 entry:∃ fn,P.funcs[f]? = some fn∧(fn.name == "runtime.NumGoroutine")=false∧fn.body.isNone=false
 calls:∀ (cx:Cx) (ρ:Nat→Option Loc) (σ:Nat→Option bB) (n:Nat) (w:World) (args:List D) (vs:Array Value) (r:T),cx.P=P→Good P w→Inv cx ρ σ n w→cZ (Rd w (bL cx ρ σ) ρ) args vs →
  g args σ n=some r→Calls P f vs w (fun e w'=>∃ v,e = .returned v∧cN w' (bL cx ρ σ) r v∧Below w.heap.size w w')
structure kP (P:Program) (f:FuncId) (g:List T→Option T):Prop where
 entry:∃ fn,P.funcs[f]? = some fn∧(fn.name == "runtime.NumGoroutine")=false∧fn.body.isNone=false
 calls:∀ (w:World) (own:Nat→Prop) (args:List T) (vs:Array Value) (r:T),Good P w→(∀ b,own b→b<w.heap.size)→cZ (cN w own) args vs→g args=some r →
  Calls P f vs w (fun e w'=>∃ v,e = .returned v∧cN w' (fun b=>b<w.heap.size) r v∧Below w.heap.size w w')
def bS (es:List (ByteArray×Int)):List (Value×T):=es.map fun e=>(.string e.1,.v (.int .i64 e.2))
def sB (g:List T→Option (List (ByteArray×Int))) (args:List T):Option T:=(g args).map fun es=>.mp (bS es)
def A7N (P:Program) (f:FuncId) (g:List T→Option T):Prop :=
 ∀ (w:World) (own:Nat→Prop) (args:List T) (vs:Array Value) (r:T),cZ (cN w own) args vs→g args=some r→∃ v,(callFunc f vs).run P w = .ok (.value v) w∧cN w own r v
inductive Fn where
 | pure (g:List T→Option T)
 | fresh (g:List T→Option (List (List T)))
 | heap (g:List D→(Nat→Option bB)→Nat→Option (D×(Nat→Option bB)×Nat))
 | read (g:List D→(Nat→Option bB)→Nat→Option T)
 | perm (z:Nat) (g:List (List T)→Option (List (List T)))
 | mark
 | both (g:List D→(Nat→Option bB)→Nat→Option T) (h:List D→(Nat→Option bB)→Nat→Option (D×(Nat→Option bB)×Nat))
 | new (g:List T→Option T)
 | APW (g:List T→Option (List (ByteArray×Int)))
 | ext (g:List T→Option T)
 | N8 (g:List T→Option (List (List T)))
 | grow (z:Nat) (g:List (List T)→List T→Option (List (List T)))
 | dup (z b:Nat)
 | room (z b:Nat)
 | part (c:Nat) (g:List T→Option T)
 | A51 (g:List T→Option T)
 | A9F (vs:List TypeId) (g:List T→Option T)
 | BCS (g:List T→Option T)
 | BAX (g:List T→Option T)
 | cpy (o:Bool) (s:Option FuncId) (zs:List (Nat×Nat)) (g:List T→Option T)
def ABJ (z:Nat) (g:List (List T)→Option (List (List T))):List D→(Nat→Option bB)→Nat→Option (D×(Nat→Option bB)×Nat):=fun args σ n=>match args with
 | [.own k]=>match σ k with
  | some (.arr false z' rows)=>match decide (z'=z) with
   | true=>(g rows).map fun rows'=>(.p (.v (.tuple #[])),bY σ k (some (.arr false z rows')),n+1)
   | false=>none
  | _=>none
 | _=>none
def mP (z:Nat) (g:List (List T)→List T→Option (List (List T))):List D→(Nat→Option bB)→Nat→Option (D×(Nat→Option bB)×Nat):=fun args σ n=>match args with
 | .own k::rest=>match σ k with
  | some (.arr false z' rows)=>match decide (z'=z),gZ rest with
   | true,some ts=>(g rows ts).map fun rows'=>(.own n,bY (bY σ k none) n (some (.arr false z rows')),n+1)
   | _,_=>none
  | _=>none
 | _=>none
def CG (z b:Nat):List D→(Nat→Option bB)→Nat→Option (D×(Nat→Option bB)×Nat):=fun args σ n=>match args with
 | [.own k]=>match σ k with
  | some (.arr _ z' rows)=>match decide (z'=z)&&decide (rows.length*b≤140737488355328)&&decide (rows.length≤140737488355328) with
   | true=>some (.own n,bY σ n (some (.arr false z rows)),n+1)
   | false=>none
  | _=>none
 | [.p t]=>match fK t with
  | some (_,rows)=>match (rows.all fun r=>decide (r.length=z))&&decide (rows.length*b≤140737488355328)&&decide (rows.length≤140737488355328) with
   | true=>some (.own n,bY σ n (some (.arr false z rows)),n+1)
   | false=>none
  | none=>none
 | _=>none
def ABL (z b:Nat):List D→(Nat→Option bB)→Nat→Option (D×(Nat→Option bB)×Nat):=fun args σ n=>match args with
 | [.p (.v (.slice none 0 0)),.p (.v (.int .i64 m))]=>match decide (0≤m)&&decide (m.toNat*b≤140737488355328)&&decide (m.toNat≤140737488355328) with
  | true=>some (.own n,bY σ n (some (.arr false z [])),n+1)
  | false=>none
 | _=>none
def A12:List T→T
 | [t]=>t
 | ts=>.bZ ts
def ABI (g:List T→Option T):List D→(Nat→Option bB)→Nat→Option (D×(Nat→Option bB)×Nat):=fun args σ n=>match args with
 | .ptr k i j::rest=>match decide (i=0)&&decide (j=0),σ k with
  | true,some (.rows false [ds])=>match gZ ds,gZ rest with
   | some cs,some ts=>match g (.agg cs::ts) with
    | some (.bZ (.agg cs'::ts'))=>match decide (cs'.length=cs.length) with
     | true=>some (.p (A12 ts'),bY σ k (some (.rows false [cs'.map .p])),n+1)
     | false=>none
    | _=>none
   | _,_=>none
  | _,_=>none
 | _=>none
def BE (σ:Nat→Option bB):List (Nat×D)→Option (List (Nat×D)×(Nat→Option bB))
 | []=>some ([],σ)
 | (i,.own k)::r=>match σ k with
  | some (.arr false z rows)=>(BE (bY σ k none) r).map fun x=>((i,.p (.sl false rows))::x.1,x.2)
  | _=>none
 | (i,d)::r=>(BE σ r).map fun x=>((i,d)::x.1,x.2)
def T.canon:Nat→T→T
 | _,.sl _ rows=>.sl false rows
 | _,.v (.slice none 0 0)=>.sl false []
 | _,.ne _=>.sl false []
 | n+1,.agg cs=>.agg (cs.map (T.canon n))
 | n+1,.bZ cs=>.bZ (cs.map (T.canon n))
 | _,t=>t
def JA:List D→List D×List D
 | []=>([],[])
 | .ptr k i j::r=>([],.ptr k i j::r)
 | d::r=>(d::(JA r).1,(JA r).2)
def A1I:List D→Option (List Nat)
 | []=>some []
 | .ptr k i j::r=>match decide (i=0)&&decide (j=0) with
  | true=>(A1I r).map (k :: ·)
  | false=>none
 | _=>none
def A8O:List Nat→List Nat→Bool
 | [],[]=>true
 | a::l,b::m=>Nat.beq a b&&A8O l m
 | _,_=>false
def nodupB:List Nat→Bool
 | []=>true
 | a::l=>(l.all fun b=>!Nat.beq a b)&&nodupB l
def yL (σ:Nat→Option bB):List Nat→Option (List (List T))
 | []=>some []
 | k::r=>match σ k with
  | some (.rows false [ds])=>match gZ ds,yL σ r with
   | some row,some rs=>some (row.map (T.canon 4)::rs)
   | _,_=>none
  | _=>none
def BE7 (f:FuncId) (σ:Nat→Option bB) (s:Nat) (ks:List Nat):Option (List T):=match σ s with
 | some (.rows _ [[.fn f' [] caps]])=>match decide (f'=f),gZ (JA caps).1,A1I (JA caps).2 with
  | true,some vs,some ks'=>match A8O ks' ks with
   | true=>some (vs.map (T.canon 4))
   | false=>none
  | _,_,_=>none
 | _=>none
def VS (f:FuncId) (args:List D) (σ:Nat→Option bB):Option (List T×List (List T)×List Nat×(Nat→Option bB)) :=
 match BE σ ((JA args).1.map fun d=>(0,d)),A1I (JA args).2 with
 | some (ps,σ1),some ks=>match gZ (ps.map (·.2)),ks.getLast?,nodupB ks with
  | some pre,some s,true=>match yL σ1 ks.dropLast,BE7 f σ1 s ks with
   | some rows,some vals=>some (.bZ (pre.map (T.canon 4)) :: .bZ vals::rows.map .agg,rows,ks.dropLast,σ1)
   | _,_=>none
  | _,_,_=>none
 | _,_=>none
def AIS:List (List T)→List T→Bool
 | [],_=>true
 | row::rows,.agg cs::ts=>Nat.beq cs.length row.length&&AIS rows ts
 | _,_=>false
def A2O (σ:Nat→Option bB):List Nat→List T→(Nat→Option bB)
 | k::ks,.agg cs::ts=>A2O (bY σ k (some (.rows false [cs.map .p]))) ks ts
 | _,_=>σ
def ABG (f:FuncId) (g:List T→Option T):List D→(Nat→Option bB)→Nat→Option (D×(Nat→Option bB)×Nat):=fun args σ n=>match VS f args σ with
 | some (ins,rows,kk,σ1)=>match g ins with
  | some (.bZ ts)=>match AIS rows ts with
   | true=>some (.p (A12 (ts.drop rows.length)),A2O σ1 kk ts,n+1)
   | false=>none
  | _=>none
 | none=>none
def AMX (args:List D) (σ:Nat→Option bB):Option (Nat×List T×List T×(Nat→Option bB)):=match args with
 | .ptr k i j::rest=>match decide (i=0)&&decide (j=0),BE σ (rest.map fun d=>(0,d)) with
  | true,some (ps,σ1)=>match σ1 k,gZ (ps.map (·.2)) with
   | some (.rows false [ds]),some ts=>match gZ ds with
    | some cs=>some (k,cs.map (T.canon 4),ts.map (T.canon 4),σ1)
    | none=>none
   | _,_=>none
  | _,_=>none
 | _=>none
def ABK (g:List T→Option T):List D→(Nat→Option bB)→Nat→Option (D×(Nat→Option bB)×Nat):=fun args σ n=>match AMX args σ with
 | some (k,cs,ts,σ1)=>match g (.agg cs::ts) with
  | some (.bZ (.agg cs'::ts'))=>match Nat.beq cs'.length cs.length with
   | true=>some (.p (A12 ts'),bY σ1 k (some (.rows false [cs'.map .p])),n+1)
   | false=>none
  | _=>none
 | none=>none
def BC1 (k:Nat) (rows:List (List T)):D→D
 | .own j=>match Nat.beq j k with
  | true=>.p (.sl false rows)
  | false=>.own j
 | d=>d
def BFU (k:Nat) (rows:List (List T)):D→D
 | .agg cs=>.agg (cs.map (BC1 k rows))
 | d=>BC1 k rows d
def AKY (k:Nat) (rows:List (List T)):bB→bB
 | .rows false rs=>.rows false (rs.map fun r=>r.map (BC1 k rows))
 | x=>x
def BCY (σ:Nat→Option bB) (k:Nat) (rows:List (List T)):Nat→Option bB:=fun j=>match Nat.beq j k with
 | true=>none
 | false=>(σ j).map (AKY k rows)
def BE0:D→List Nat
 | .own k=>[k]
 | _=>[]
def A8G:D→List Nat
 | .agg cs=>cs.flatMap BE0
 | d=>BE0 d
def S4 (σ:Nat→Option bB):List Nat→List D→Option (List D×(Nat→Option bB))
 | [],args=>some (args,σ)
 | k::ks,args=>match σ k with
  | some (.arr false _ rows)=>S4 (BCY σ k rows) ks (args.map (BFU k rows))
  | none=>S4 σ ks args
  | _=>none
def ABH (g:List T→Option T):List D→(Nat→Option bB)→Nat→Option (D×(Nat→Option bB)×Nat):=fun args σ n=>match S4 σ (args.flatMap A8G) args with
 | some (args',σ1)=>match args'.mapM (iA (fun _=>none) 2) with
  | some ts=>(g (ts.map (T.canon 4))).map fun r=>(.p r,σ1,n+1)
  | none=>none
 | none=>none
def KA (σ:Nat→Option bB):Nat→List bB→Nat→Option bB
 | _,[]=>σ
 | n,b::l=>KA (bY σ n (some b)) (n+1) l
def kD:List (Nat×Nat)→Nat→List D→List D
 | [],_,ds=>ds
 | (c,_)::zs,n,ds=>kD zs (n+1) (ds.set c (.own n))
def KB (row:List T):List (Nat×Nat)→Option (List bB)
 | []=>some []
 | (c,z)::zs=>match row[c]? with
  | some (.sl _ rows)=>match KB row zs with
   | some l=>some (.arr false z rows::l)
   | none=>none
  | _=>none
def FL (σ:Nat→Option bB):List (Nat×Nat)→List D→Option (List Nat×List D)
 | [],ds=>some ([],ds)
 | (c,z)::zs,ds=>match ds[c]? with
  | some (.own k)=>match σ k with
   | some (.arr _ z' rows)=>match Nat.beq z' z,FL σ zs (ds.set c (.p (.sl false rows))) with
    | true,some (ks,ds')=>some (k::ks,ds')
    | _,_=>none
   | _=>none
  | _=>none
def VW (o:Bool) (zs:List (Nat×Nat)) (σ:Nat→Option bB) (ds:List D):Option (Bool×List T):=match gZ ds with
 | some row=>some (false,row)
 | none=>match o,FL σ zs ds with
  | true,some (ks,ds')=>match nodupB ks,gZ ds' with
   | true,some row=>some (true,row)
   | _,_=>none
  | _,_=>none
def w5 (o:Bool) (s:Option FuncId) (zs:List (Nat×Nat)) (σ:Nat→Option bB) (args:List D):Option (Bool×List T):=match s,args with
 | none,[.p (.agg row)]=>some (false,row)
 | none,[.agg ds]=>VW o zs σ ds
 | some c,[d,.p (.fn c' [] [])]=>match Nat.beq c c' with
  | true=>VW o zs σ [d]
  | false=>none
 | _,_=>none
def eF (s:Option FuncId) (row:List T):List T:=match s with
 | none=>[.agg row]
 | some c=>row++[.fn c [] []]
def NJ (s:Option FuncId) (t:T):Option (List T):=match s,t with
 | none,.agg row=>some row
 | none,_=>none
 | some _,t=>some [t]
def A9G (s:Option FuncId) (ds:List D):D:=match s with
 | none=>.agg ds
 | some _=>ds.headD (.p (.v undef))
def VX (s:Option FuncId) (vc:Array Value):Value:=match s with
 | none=>.agg vc
 | some _=>vc.getD 0 undef
def CF (o:Bool) (s:Option FuncId) (zs:List (Nat×Nat)) (g:List T→Option T) (args:List D) (σ0 σ:Nat→Option bB) (n:Nat):Option (D×(Nat→Option bB)×Nat):=match w5 o s zs σ0 args with
 | some (_,row)=>match g (eF s row) with
  | some t=>match NJ s t with
   | some row'=>match KB row' zs with
    | some bs=>some (A9G s (kD zs n (row'.map D.p)),KA σ n bs,n+zs.length)
    | none=>none
   | none=>none
  | none=>none
 | none=>none
def oC (m:Nat) (L:Nat→Loc) (b:Nat):Prop:=∃ j,j<m∧0<(L j).L+(L j).C∧b=(L j).bJ
structure sQ (P:Program) (f:FuncId) (o:Bool) (s:Option FuncId) (zs:List (Nat×Nat)) (g:List T→Option T):Prop where
 entry:∃ fn,P.funcs[f]? = some fn∧(fn.name == "runtime.NumGoroutine")=false∧fn.body.isNone=false
 calls:∀ (cx:Cx) (ρ:Nat→Option Loc) (σ:Nat→Option bB) (n:Nat) (w:World) (args:List D) (vs:Array Value) (b:Bool) (row row':List T) (t:T) (bs:List bB),cx.P=P→Good P w→Inv cx ρ σ n w→cZ (Rd w (bL cx ρ σ) ρ) args vs →
  w5 o s zs σ args=some (b,row)→g (eF s row)=some t→NJ s t=some row'→KB row' zs=some bs→Calls P f vs w (fun e w'=>∃ (vc:Array Value) (L:Nat→Loc),e = .returned (VX s vc)∧Below w.heap.size w w' ∧
   (∀ i,i<zs.length→0<(L i).L+(L i).C→w.heap.size≤(L i).bJ∧(L i).bJ<w'.heap.size) ∧
   (∀ i j,i<zs.length→j<zs.length→0<(L i).L+(L i).C→0<(L j).L+(L j).C→(L i).bJ=(L j).bJ→i=j) ∧
   (∀ i,i<zs.length→fF w' (fun b=>bL cx ρ σ b∨oC zs.length L b) (fun _=>none) (L i) (bs.getD i .held)) ∧
   cZ (Rd w' (fun b=>bL cx ρ σ b∨oC zs.length L b) (fun i=>if i<zs.length then some (L i) else none)) (kD zs 0 (row'.map .p)) vc)
def BDT (P:Program) (f:FuncId):Fn→Prop
 | .pure g=>aN P f g
 | .fresh g=>e6 P f g
 | .heap g=>cY P f g
 | .read g=>lM P f g
 | .perm z g=>cY P f (ABJ z g)
 | .mark=>True
 | .both g h=>lM P f g∧cY P f h
 | .new g=>kP P f g
 | .APW g=>kP P f (sB g)
 | .ext g=>A7N P f g
 | .N8 g=>ZV P f g
 | .grow z g=>cY P f (mP z g)
 | .dup z y=>cY P f (CG z y)
 | .room z y=>cY P f (ABL z y)
 | .part c g=>MY P f c g
 | .A51 g=>cY P f (ABI g)
 | .A9F _ g=>cY P f (ABG f g)
 | .BCS g=>cY P f (ABK g)
 | .BAX g=>cY P f (ABH g)
 | .cpy o s zs g=>sQ P f o s zs g
def Env:=FuncId→Option Fn
def Env.of:List (FuncId×Fn)→Env
 | [],_=>none
 | (k,x)::r,f=>if k=f then some x else Env.of r f
def Env.marked (E:Env) (t:TypeId):Bool:=match E (1000000000+t) with
 | some .mark=>true
 | _=>false
def Env.still (E:Env) (t:TypeId):Bool:=match E (4000000000+t) with
 | some .mark=>true
 | _=>false
def Env.AZU (E:Env) (f:FuncId):Bool:=match E f with
 | some (.pure _)=>true
 | some (.read _)=>true
 | some (.new _)=>true
 | some (.APW _)=>true
 | some (.ext _)=>true
 | _=>false
def aT (P:Program) (E:Env):Prop:=∀ f x,E f=some x→BDT P f x
def Env.view (E:Env) (draw:Bool):Env:=fun f=>match E f with
 | some (.both g h)=>match draw with
  | true=>some (.read g)
  | false=>some (.heap h)
 | x=>x
theorem aT.view {P:Program} {E:Env} (h:aT P E) (draw:Bool):aT P (E.view draw):=by
 intro f x hx
 unfold Env.view at hx
 split at hx
 ·rename_i g k he
  have hk:lM P f g∧cY P f k:=h f _ he
  split at hx
  ·cases hx;exact hk.1
  ·cases hx;exact hk.2
 ·exact h f x hx
theorem aT.nil (P:Program):aT P (Env.of []):=fun f x h=>by simp[Env.of] at h
theorem aT.cons {P:Program} {l:List (FuncId×Fn)} {f:FuncId} {x:Fn} (h:BDT P f x) (hE:aT P (Env.of l)):aT P (Env.of ((f,x)::l)):=by
 intro f' x' hx
 simp only[Env.of] at hx
 split at hx
 ·simp_all
 ·exact hE f' x' hx
def T.wG:Nat→T→Bool
 | _,.v _=>true
 | n+1,.bZ ts=>ts.all (T.wG n)
 | n+1,.agg ts=>ts.all (T.wG n)
 | _,_=>false
def T.flat (t:T):Bool:=T.wG 3 t
theorem cN.A6A {w:World} {own own':Nat→Prop}:∀ (n:Nat) {t:T} {v:Value},cN w own t v→T.wG n t=true→cN w own' t v:=by
 intro n
 induction n with
 | zero =>
  intro t v h hf
  cases h with
  | v=>exact .v _
  | _=>simp[T.wG] at hf
 | succ n ih =>
  intro t v h hf
  cases h with
  | v=>exact .v _
  | bZ cs vs h1 h2 =>
   exact .bZ cs vs h1 fun i hi=>ih (h2 i hi) (List.all_eq_true.1 hf _ (List.getElem_mem hi))
  | agg cs vs h1 h2 =>
   exact .agg cs vs h1 fun i hi=>ih (h2 i hi) (List.all_eq_true.1 hf _ (List.getElem_mem hi))
  | _=>simp[T.wG] at hf
theorem cN.H5 {w:World} {own own':Nat→Prop} {t:T} {v:Value} (h:cN w own t v) (hf:t.flat=true):cN w own' t v:=cN.A6A 3 h hf
def jW (c:D):Option (FuncId×List D×List D) :=
 match c with
 | .p (.fn f a b)=>some (f,a.map .p,b.map .p)
 | .fn f a b=>some (f,a,b)
 | _=>none
def p9 (E:Env) (σ:Nat→Option bB) (n:Nat) (c:D) (args:List D):Option D :=
 match jW c with
 | some (f,a,b) =>
  match E f with
  | some (.pure g) =>
   match gZ (a++args++b) with
   | some ts=>(g ts).map .p
   | none =>
    match (a++args++b).mapM (iA σ 4) with
    | some ts=>match g ts with
     | some r=>if r.flat then some (.p r) else none
     | none=>none
    | none=>none
  | some (.read g)=>(g (a++args++b) σ n).map .p
  | some (.new g)=>match (a++args++b).mapM (iA σ 4) with
   | some ts=>(g ts).map .p
   | none=>none
  | some (.APW g)=>match (a++args++b).mapM (iA σ 4) with
   | some ts=>(g ts).map fun es=>.p (.mp (bS es))
   | none=>none
  | some (.ext g)=>match gZ (a++args++b) with
   | some ts=>(g ts).map .p
   | none=>none
  | _=>none
 | none=>none
section
variable {cx : Cx} {ρ : Nat → Option Loc} {σ : Nat → Option bB} {n : Nat} {w : World}
theorem HB {own:Nat→Prop} {c:D} {x:Value} {f:FuncId} {a b:List D} (hc:Rd w own ρ c x) (h:jW c=some (f,a,b)):∃ va vb,x = .func (.func f) va vb∧cZ (Rd w own ρ) a va∧cZ (Rd w own ρ) b vb:=by
 unfold jW at h
 split at h
 ·cases h
  cases hc with
  | p _ _ hc =>
  cases hc with
  | fn _ _ _ va vb h1 h2 h3 h4=>exact ⟨va,vb,rfl,cZ.map (R:=cN w own) _ ⟨h1,h3⟩ (fun _ _ h=>.p _ _ h),cZ.map (R:=cN w own) _ ⟨h2,h4⟩ (fun _ _ h=>.p _ _ h)⟩
 ·cases h
  cases hc with
  | fn _ _ _ va vb h1 h2 h3 h4=>exact ⟨va,vb,rfl,⟨h1,h3⟩,⟨h2,h4⟩⟩
 ·cases h
theorem uI {own:Nat→Prop} {ds:List D} {ts:List T} {vs:Array Value} (h:cZ (Rd w own ρ) ds vs) (ht:gZ ds=some ts):cZ (cN w own) ts vs:=by
 have e:=fG ht
 subst e
 refine ⟨by simpa using h.1,fun i hi=>?_⟩
 have:=h.2 i (by simpa using hi)
 simp only[List.getElem_map] at this
 cases this with
 | p _ _ h=>exact h
theorem AAL {E:Env} (hE:aT cx.P E) (hI:Inv cx ρ σ n w) (hG:Good cx.P w) {c:D} {x:Value} {args:List D} {vargs:Array Value} {r:D} (hc:Rd w (bL cx ρ σ) ρ c x) (ha:cZ (Rd w (bL cx ρ σ) ρ) args vargs)
  (h:p9 E σ n c args=some r):(∃ f as,(do let d ←Deferred.ofValue x vargs;invoke d.target d.args:Sem Next).run cx.P w = .ok (.enter f as) w ∧
   Calls cx.P f as w (fun e w'=>∃ v,e = .returned v∧Rd w' (bL cx ρ σ) ρ r v∧Below w.heap.size w w')) ∨
   ∃ v,(do let d ←Deferred.ofValue x vargs;invoke d.target d.args:Sem Next).run cx.P w = .ok (.value v) w∧Rd w (bL cx ρ σ) ρ r v:=by
 have newC:∀ {f:FuncId} {g:List T→Option T} {ds:List D} {va vb:Array Value} {ts:List T} {r':T},kP cx.P f g→cZ (Rd w (bL cx ρ σ) ρ) ds (va++vargs++vb)→ds.mapM (iA σ 4)=some ts→g ts=some r' →
   ∃ f' as,(do let d ←Deferred.ofValue (.func (.func f) va vb) vargs;invoke d.target d.args:Sem Next).run cx.P w = .ok (.enter f' as) w∧Calls cx.P f' as w (fun e w'=>∃ v,e = .returned v∧Rd w' (bL cx ρ σ) ρ (.p r') v∧Below w.heap.size w w'):=by
  intro f g ds va vb ts r' hf hargs hts hr
  obtain ⟨fn,e1,e2,e3⟩:=hf.entry
  refine ⟨f,va++vargs++vb,?_,?_⟩
  ·have e2':¬ fn.name = "runtime.NumGoroutine" := by simpa using e2
   have e3':¬ fn.body=none:=by intro h;simp[h] at e3
   simp[Deferred.ofValue,invoke,callFunc,e1,e2',e3']
  ·have hts':=EF (fun hd ht=>CE hI 4 hd ht) hargs hts
   refine (hf.calls w cx.own ts _ r' hG (fun b hb=>by have:=hI.jY b hb;have:=hI.below.size;omega) hts' hr).mono ?_
   rintro e w' ⟨v,rfl,h3,h4⟩
   exact ⟨v,rfl,.p _ _ (h3.less fun b hb=>bL.lt hI hb),h4⟩
 unfold p9 at h
 split at h
 ·rename_i f a b hcal
  obtain ⟨va,vb,rfl,h1,h2⟩:=HB hc hcal
  split at h
  ·rename_i g hg
   have hf:aN cx.P f g:=hE f _ hg
   obtain ⟨fn,e1,e2,e3⟩:=hf.entry
   have hargs:cZ (Rd w (bL cx ρ σ) ρ) (a++args++b) (va++vargs++vb):=(h1.append ha).append h2
   refine .inl ⟨f,va++vargs++vb,?_,?_⟩
   ·have e2':¬ fn.name = "runtime.NumGoroutine" := by simpa using e2
    have e3':¬ fn.body=none:=by intro h;simp[h] at e3
    simp[Deferred.ofValue,invoke,callFunc,e1,e2',e3']
   ·split at h
    ·rename_i ts hts
     simp only[Option.map_eq_some_iff] at h
     obtain ⟨r',hr,rfl⟩:=h
     refine (hf.calls w (bL cx ρ σ) ts _ r' hG (fun b hb=>bL.lt hI hb) (uI hargs hts) hr).mono ?_
     rintro e w' ⟨v,rfl,h3,h4⟩
     exact ⟨v,rfl,.p _ _ h3,h4⟩
    ·split at h
     ·rename_i ts hts
      split at h
      ·rename_i r' hr
       split at h
       ·rename_i hfl
        cases h
        have hts':=EF (fun hd ht=>CE hI 4 hd ht) hargs hts
        refine (hf.calls w cx.own ts _ r' hG (fun b hb=>by have:=hI.jY b hb;have:=hI.below.size;omega) hts' hr).mono ?_
        rintro e w' ⟨v,rfl,h3,h4⟩
        exact ⟨v,rfl,.p _ _ (h3.H5 hfl),h4⟩
       ·cases h
      ·cases h
     ·cases h
  ·rename_i g hg
   have hf:lM cx.P f g:=hE f _ hg
   obtain ⟨fn,e1,e2,e3⟩:=hf.entry
   have hargs:cZ (Rd w (bL cx ρ σ) ρ) (a++args++b) (va++vargs++vb):=(h1.append ha).append h2
   refine .inl ⟨f,va++vargs++vb,?_,?_⟩
   ·have e2':¬ fn.name = "runtime.NumGoroutine" := by simpa using e2
    have e3':¬ fn.body=none:=by intro h;simp[h] at e3
    simp[Deferred.ofValue,invoke,callFunc,e1,e2',e3']
   ·simp only[Option.map_eq_some_iff] at h
    obtain ⟨r',hr,rfl⟩:=h
    refine (hf.calls cx ρ σ n w _ _ r' rfl hG hI hargs hr).mono ?_
    rintro e w' ⟨v,rfl,h3,h4⟩
    exact ⟨v,rfl,.p _ _ h3,h4⟩
  ·rename_i g hg
   split at h
   ·rename_i ts hts
    simp only[Option.map_eq_some_iff] at h
    obtain ⟨r',hr,rfl⟩:=h
    exact .inl (newC (hE f _ hg) ((h1.append ha).append h2) hts hr)
   ·cases h
  ·rename_i g hg
   split at h
   ·rename_i ts hts
    simp only[Option.map_eq_some_iff] at h
    obtain ⟨es,hr,rfl⟩:=h
    exact .inl (newC (g:=sB g) (hE f _ hg) ((h1.append ha).append h2) hts (by simp[sB,hr]))
   ·cases h
  ·rename_i g hg
   have hf:A7N cx.P f g:=hE f _ hg
   have hargs:cZ (Rd w (bL cx ρ σ) ρ) (a++args++b) (va++vargs++vb):=(h1.append ha).append h2
   split at h
   ·rename_i ts hts
    simp only[Option.map_eq_some_iff] at h
    obtain ⟨r',hr,rfl⟩:=h
    obtain ⟨v,h3,h4⟩:=hf w _ ts _ r' (uI hargs hts) hr
    refine .inr ⟨v,?_,.p _ _ h4⟩
    simpa [Deferred.ofValue,invoke] using h3
   ·cases h
  ·cases h
 ·cases h
end
end Go.Pv
