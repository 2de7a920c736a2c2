/-
  The pure evaluator, part g: frozen data, calls of functions that are known, and the operations that leave the boxes alone, all together.
-/
import Derived.Test.YtlongjgklndggaaGreatDoorVbwf
set_option linter.defProp false
set_option linter.unusedSimpArgs false
namespace Go.Pv
open Go Go.RowKit
def c0 (σ:Nat→Option aB):Nat→D→Option T
 | _,.p t=>some t
 | n+1,.agg cs=>(cs.mapM (c0 σ n)).map .agg
 | n+1,.aR cs=>(cs.mapM (c0 σ n)).map .aR
 | n+1,.fn f a b=>match a.mapM (c0 σ n),b.mapM (c0 σ n) with
  | some a,some b=>some (.fn f a b)
  | _,_=>none
 | n+1,.ptr k i j =>
  match (σ k).bind bF with
  | some rs=>match rs[i]? with
   | some r=>if j<r.length then ((r.drop j).mapM (c0 σ n)).map .ref else none
   | none=>none
  | _=>none
 | n+1,.own k =>
  match σ k with
  | some (.arr _ _ rows)=>some (.sl false rows)
  | some (.rows _ rs)=>(rs.mapM fun (r:List D)=>r.mapM (c0 σ n)).map (.sl false)
  | _=>none
 | n+1,.bs k off len =>
  match σ k with
  | some (.arr _ _ rows)=>if off+len≤rows.length then some (.sl false ((rows.drop off).take len)) else none
  | some (.rows _ rs)=>if off+len≤rs.length then (((rs.drop off).take len).mapM fun (r:List D)=>r.mapM (c0 σ n)).map (.sl false) else none
  | _=>none
 | n+1,.map k =>
  match σ k with
  | some (.map _ es)=>(es.mapM fun (e:Value×D)=>(c0 σ n e.2).map fun t=>(e.1,t)).map .mp
  | _=>none
 | _,_=>none
section
variable {cx : Cx} {ρ : Nat → Option Loc} {σ : Nat → Option aB} {n : Nat} {w : World}
theorem Inv.O8 (h:Inv cx ρ σ n w) {k:Nat} {l:Loc} (hl:ρ k=some l) (hL:0<l.L+l.C):¬ cx.own l.aG:=((h.new k l hl).2 hL).2
theorem aU.less {own own':Nat→Prop} (ho:∀ b,own' b→own b) {t:T} {v:Value} (h:aU w own t v):aU w own' t v :=
 h.mono (fun _ _ _=>rfl) (Nat.le_refl _) (fun b _ hn hc=>hn (ho b hc))
theorem nV {own own0:Nat→Prop} {τ:Nat→Option aB} {m:Nat} (ih:∀ {d:D} {t:T} {v:Value},Rd w own ρ d v→c0 τ m d=some t→aU w own0 t v) {ds:List D} {ts:List T} {vs:Array Value} (h:aY (Rd w own ρ) ds vs)
  (hf:ds.mapM (c0 τ m)=some ts):aY (aU w own0) ts vs:=by
 obtain ⟨h1,h2⟩:=mapM_some_length hf
 refine ⟨by rw[h1];exact h.1,fun i hi=>?_⟩
 exact ih (h.2 i (by omega)) (h2 i (by omega) hi)
theorem S9 (τ:Nat→Option aB) (m:Nat) (t:T):c0 τ m (.p t)=some t:=by cases m<;>rfl
theorem tA (τ:Nat→Option aB) (m:Nat):∀ (r:List T),(r.map D.p).mapM (c0 τ m)=some r
 | []=>rfl
 | t::r=>by simp only[List.map_cons,List.mapM_cons,S9,tA τ m r];rfl
theorem o2 (τ:Nat→Option aB) (m:Nat):∀ (rows:List (List T)),(aA rows).mapM (fun (r:List D)=>r.mapM (c0 τ m))=some rows
 | []=>rfl
 | r::rows=>by
  have:=o2 τ m rows
  simp only[aA,List.map_cons,List.mapM_cons] at this ⊢
  simp only[tA,this]
  rfl
theorem pT {own0:Nat→Prop} {τ:Nat→Option aB} {m:Nat} (h:Inv cx ρ σ n w) {k:Nat} {rs:List (List D)} (hk:(σ k).bind bF=some rs) {l:Loc} (hl:ρ k=some l) (hL:0<l.L+l.C) (_:l.C≤maxLen) (hdis:¬ own0 l.aG)
  (ih:∀ {d:D} {t:T} {v:Value},Rd w (aF cx ρ σ) ρ d v→c0 τ m d=some t→aU w own0 t v) {off len:Nat} (hle:off+len≤rs.length) {rows:List (List T)} (hrows:((rs.drop off).take len).mapM (fun (r:List D)=>r.mapM (c0 τ m))=some rows) (hpos:0<len) :
  aU w own0 (.sl false rows) (.slice (some ⟨l.aG,off*l.sz,none⟩) len (l.C-off)):=by
 obtain ⟨g1,g2⟩:=mapM_some_length hrows
 obtain ⟨l',c,hl',_,_,hb⟩:=h.rows hk (by intro e;subst e;simp at hle;omega)
 rw[hl] at hl';cases hl'
 have hlen:rows.length=len:=by rw[g1];simp;omega
 have hpos:0<rows.length:=by omega
 have hrow:∀ i (hi:i<rows.length),∃ (h2:off+i<rs.length),rs[off+i].mapM (c0 τ m)=some rows[i]:=by
  intro i hi
  have:=g2 i (by omega) hi
  refine ⟨by omega,?_⟩
  simpa using this
 have hw:∀ i (hi:i<rows.length),rows[i].length=l.sz:=by
  intro i hi
  obtain ⟨h2,h3⟩:=hrow i hi
  rw[(mapM_some_length h3).1]
  exact hb.width _ (List.getElem_mem h2)
 have hcell:∀ i j (hi:i<rows.length) (hj:j<l.sz),∃ u,w.cell? ⟨l.aG,off*l.sz+i*l.sz+j,none⟩=some u∧u.oneCell'=true∧∀ (hj:j<rows[i].length),aU w own0 rows[i][j] u:=by
  intro i j hi hj
  obtain ⟨h2,h3⟩:=hrow i hi
  obtain ⟨e1,e2⟩:=mapM_some_length h3
  have hwid:=hb.width _ (List.getElem_mem h2)
  obtain ⟨u,u1,u2,u3⟩:=h.cellOf hk (i:=off+i) (r:=rs[off+i]) (by simp[h2]) (j:=j) (by omega) hl
  refine ⟨u,by rw[←Nat.add_mul];exact u1,u3,fun hj'=>ih u2 (e2 j (by omega) hj')⟩
 have hex:∃ f:Nat→Nat→Value,∀ i j (hi:i<rows.length) (hj:j<l.sz),w.cell? ⟨l.aG,off*l.sz+i*l.sz+j,none⟩=some (f i j)∧(f i j).oneCell'=true∧∀ (hj:j<rows[i].length),aU w own0 rows[i][j] (f i j):=by
  refine ⟨fun i j=>if hij:i<rows.length∧j<l.sz then Classical.choose (hcell i j hij.1 hij.2) else undef,fun i j hi hj=>?_⟩
  have hs:=Classical.choose_spec (hcell i j hi hj)
  simp only[dif_pos (show i<rows.length∧j<l.sz from ⟨hi,hj⟩)]
  exact hs
 obtain ⟨f,hf⟩:=hex
 rw[←hlen]
 have hsm:=hb.small
 have hCl:=hb.len
 exact .sl false rows l.sz l.aG (off*l.sz) (l.C-off) f (by omega) (by omega) (by simp) hdis ((h.new k l hl).2 hL).1 (fun r hr=>by
  obtain ⟨i,hi,rfl⟩:=List.mem_iff_getElem.1 hr
  exact hw i hi) hb.pos (fun i j hi hj=>⟨(hf i j hi hj).1,(hf i j hi hj).2.1⟩) (fun i j hi hj=>(hf i j hi (by rw[←hw i hi];exact hj)).2.2 hj)
theorem o1 {own0:Nat→Prop} {τ:Nat→Option aB} (h:Inv cx ρ σ n w) (h0:∀ b,own0 b→aF cx ρ σ b) (hτ:∀ k x,τ k=some x→σ k=some x) (hd:∀ k x l,τ k=some x→ρ k=some l→0<l.L+l.C→¬ own0 l.aG) :
  ∀ (m:Nat) {d:D} {t:T} {v:Value},Rd w (aF cx ρ σ) ρ d v→c0 τ m d=some t→aU w own0 t v:=by
 have hdis:=hd
 clear hd
 intro m
 induction m with
 | zero =>
  intro d t v hd hf
  cases d<;>simp[c0] at hf
  subst hf
  cases hd with
  | p _ _ hd=>exact hd.less h0
 | succ m ih =>
  intro d t v hd hf
  cases hd with
  | p t' _ hd=>simp[c0] at hf;subst hf;exact hd.less h0
  | agg cs vs h1 h2 =>
   simp only[c0,Option.map_eq_some_iff] at hf
   obtain ⟨ts,hts,rfl⟩:=hf
   have:=nV ih ⟨h1,h2⟩ hts
   exact .agg _ _ this.1 this.2
  | aR cs vs h1 h2 =>
   simp only[c0,Option.map_eq_some_iff] at hf
   obtain ⟨ts,hts,rfl⟩:=hf
   have:=nV ih ⟨h1,h2⟩ hts
   exact .aR _ _ this.1 this.2
  | fn f fs cs va vb h1 h2 h3 h4 =>
   simp only[c0] at hf
   split at hf
   ·rename_i a b ha hb
    cases hf
    have k1:=nV ih ⟨h1,h3⟩ ha
    have k2:=nV ih ⟨h2,h4⟩ hb
    exact .fn _ _ _ _ _ k1.1 k2.1 k1.2 k2.2
   ·cases hf
  | ptr k i j l hl =>
   simp only[c0] at hf
   split at hf
   ·rename_i rs hk
    have hk':(σ k).bind bF=some rs:=by
     simp only[Option.bind_eq_some_iff] at hk ⊢
     obtain ⟨x,hx,hr⟩:=hk
     exact ⟨x,hτ _ _ hx,hr⟩
    obtain ⟨x0,hx0,_⟩:=Option.bind_eq_some_iff.1 hk
    split at hf
    ·rename_i r hr
     split at hf
     ·rename_i hj
      simp only[Option.map_eq_some_iff] at hf
      obtain ⟨ts,hts,rfl⟩:=hf
      obtain ⟨g1,g2⟩:=mapM_some_length hts
      have hcell:=fun q hq=>h.cellOf hk' hr (j:=j+q) hq hl
      have hL:0<l.L+l.C:=by
       obtain ⟨l',c,hl',hL,_⟩:=h.rows hk' (eB hr)
       rw[hl] at hl';cases hl';exact hL
      have hex:∃ f:Nat→Value,∀ q,q<ts.length→w.cell? ⟨l.aG,(i*l.sz+j)+q,none⟩=some (f q)∧(f q).oneCell'=true∧∀ (hq:q<ts.length),aU w own0 ts[q] (f q):=by
       refine ⟨fun q=>if hq:j+q<r.length then Classical.choose (hcell q hq) else undef,fun q hq=>?_⟩
       have hq':j+q<r.length:=by rw[g1] at hq;simp at hq;omega
       have hs:=Classical.choose_spec (hcell q hq')
       simp only[dif_pos hq']
       refine ⟨by rw[Nat.add_assoc];exact hs.1,hs.2.2,fun _=>ih hs.2.1 ?_⟩
       have:=g2 q (by omega) hq
       simpa using this
      obtain ⟨f,hf⟩:=hex
      exact .ref ts l.aG _ f (hdis _ _ _ hx0 hl hL) ((h.new k l hl).2 hL).1 (fun q hq=>⟨(hf q hq).1,(hf q hq).2.1⟩) (fun q hq=>(hf q hq).2.2 hq)
     ·cases hf
    ·cases hf
   ·cases hf
  | own k l hl h0 hc1 hc2 =>
   have key:∃ (x:aB) (rs:List (List D)) (rows:List (List T)),τ k=some x∧bF x=some rs∧rs.mapM (fun (r:List D)=>r.mapM (c0 τ m))=some rows∧t = .sl false rows:=by
    simp only[c0] at hf
    split at hf
    ·rename_i ro z rows hk
     cases hf
     exact ⟨_,_,rows,hk,rfl,o2 τ m rows,rfl⟩
    ·rename_i ro rs hk
     simp only[Option.map_eq_some_iff] at hf
     obtain ⟨rows,h1,rfl⟩:=hf
     exact ⟨_,rs,rows,hk,rfl,h1,rfl⟩
    ·cases hf
   obtain ⟨x,rs,rows,hk,hr,hrows,rfl⟩:=key
   have hk':(σ k).bind bF=some rs:=by rw[hτ _ _ hk];exact hr
   have hL:=h.eY hk' hl
   by_cases hz0:l.L=0
   ·have hlen:=(mapM_some_length hrows).1
    have:rows=[]:=List.eq_nil_of_length_eq_zero (by omega)
    subst this
    rw[hz0]
    exact .aV false _ _ (by simp) (by simp)
   have:=pT h hk' hl h0 hc2 (hdis _ _ _ hk hl h0) ih (off:=0) (len:=rs.length) (by omega) (by simpa using hrows) (by omega)
   rw[hL] at this
   simpa using this
  | bG k l a hl h0 =>
   have hrs:∀ ro z rows,τ k=some (.arr ro z rows)→rows=[]:=by
    intro ro z rows hk
    have:=h.eY (k:=k) (rs:=aA rows) (by rw[hτ _ _ hk];rfl) hl
    rw[show l.L=0 by omega] at this
    simpa using this
   simp only[c0] at hf
   split at hf
   ·rename_i ro z rows hk
    cases hf
    rw[hrs ro z rows hk]
    exact .aV false a 0 (by simp) (by simp)
   ·rename_i ro rs hk
    simp only[Option.map_eq_some_iff] at hf
    obtain ⟨rows,h1,rfl⟩:=hf
    have:=h.eY (k:=k) (rs:=rs) (by rw[hτ _ _ hk];rfl) hl
    rw[show l.L=0 by omega] at this
    have h2:=(mapM_some_length h1).1
    rw[this] at h2
    rw[List.length_eq_zero_iff.1 h2]
    exact .aV false a 0 (by simp) (by simp)
   ·cases hf
  | bs k off len l hl hc1 hc2 =>
   have key:∃ (x:aB) (rs:List (List D)) (rows:List (List T)),τ k=some x∧bF x=some rs∧off+len≤rs.length∧((rs.drop off).take len).mapM (fun (r:List D)=>r.mapM (c0 τ m))=some rows∧t = .sl false rows:=by
    simp only[c0] at hf
    split at hf
    ·rename_i ro z rows hk
     split at hf
     ·rename_i hle
      cases hf
      refine ⟨_,_,_,hk,rfl,by simpa using hle,?_,rfl⟩
      have:=o2 τ m ((rows.drop off).take len)
      simpa [aA,List.map_drop,List.map_take] using this
     ·cases hf
    ·rename_i ro rs hk
     split at hf
     ·rename_i hle
      simp only[Option.map_eq_some_iff] at hf
      obtain ⟨rows,h1,rfl⟩:=hf
      exact ⟨_,rs,rows,hk,rfl,hle,h1,rfl⟩
     ·cases hf
    ·cases hf
   obtain ⟨x,rs,rows,hk,hr,hle,hrows,rfl⟩:=key
   have hk':(σ k).bind bF=some rs:=by rw[hτ _ _ hk];exact hr
   have hlen:rows.length=len:=by rw[(mapM_some_length hrows).1];simp;omega
   by_cases he:rows=[]
   ·subst he
    simp at hlen
    subst hlen
    exact .aV false _ _ (by simp) (by simp)
   ·have hpos:0<rows.length:=List.length_pos_iff.2 he
    obtain ⟨l',_,hl',hL,_⟩:=h.rows hk' (by intro e;subst e;simp at hle;omega)
    rw[hl] at hl';cases hl'
    have:=pT h hk' hl hL hc2 (hdis _ _ _ hk hl hL) ih hle hrows (by omega)
    exact this
  | map k l hl =>
   simp only[c0] at hf
   split at hf
   ·rename_i ro es hk
    simp only[Option.map_eq_some_iff] at hf
    obtain ⟨ts,hts,rfl⟩:=hf
    obtain ⟨g1,g2⟩:=mapM_some_length hts
    obtain ⟨l',hl',hL,o,ho,hb⟩:=h.loc (hτ _ _ hk) (fun _ _ e=>by cases e)
    rw[hl] at hl';cases hl'
    cases hb with
    | rows _ _ _ hr=>simp[bF] at hr
    | map _ _ ents h1 h2 =>
     have hex:∀ i (hi:i<ts.length),∃ e,ents[i]? = some e∧e.key=ts[i].1∧e.born=i∧aU w own0 ts[i].2 e.val:=by
      intro i hi
      obtain ⟨e,a1,a2,a3,a4⟩:=h2 i (by omega)
      have g3:=g2 i (by omega) hi
      simp only[Option.map_eq_some_iff] at g3
      obtain ⟨t,g4,g5⟩:=g3
      refine ⟨e,a1,?_,a3,?_⟩
      ·rw[←g5];exact a2
      ·rw[←g5];exact ih a4 g4
     refine .mp ts l.aG ents (fun i=>ents.getD i ⟨undef,undef,0⟩) (hdis _ _ _ hk hl hL) ((h.new k l hl).2 hL).1 (by rw[g1];exact ho) (by omega) (fun i hi=>?_) (fun i hi=>?_)
     ·obtain ⟨e,a1,a2,a3,_⟩:=hex i hi
      rw[show ents.getD i ⟨undef,undef,0⟩=e by rw[Array.getD_eq_getD_getElem?,a1];rfl]
      exact ⟨a1,a2,a3⟩
     ·obtain ⟨e,a1,_,_,a4⟩:=hex i hi
      rw[show ents.getD i ⟨undef,undef,0⟩=e by rw[Array.getD_eq_getD_getElem?,a1];rfl]
      exact a4
   ·cases hf
  | it k l hl=>simp[c0] at hf
  | hO d v hd=>simp[c0] at hf
  | mC d=>simp[c0] at hf
  | any v=>simp[c0] at hf
theorem mU (h:Inv cx ρ σ n w) (m:Nat) {d:D} {t:T} {v:Value} (hd:Rd w (aF cx ρ σ) ρ d v) (hf:c0 σ m d=some t):aU w cx.own t v :=
 o1 h (fun _ h=>.inl h) (fun _ _ h=>h) (fun _ _ _ _ hl hL=>h.O8 hl hL) m hd hf
theorem nW {m:Nat} (ih:∀ {d:D} {t:T} {v:Value},Rd w (aF cx ρ σ) ρ d v→c0 σ m d=some t→aU w cx.own t v) {ds:List D} {ts:List T} {vs:Array Value} (h:aY (Rd w (aF cx ρ σ) ρ) ds vs)
  (hf:ds.mapM (c0 σ m)=some ts):aY (aU w cx.own) ts vs:=nV ih h hf
end
structure aW (P:Program) (f:FuncId) (g:List T→Option T):Prop where
 entry:∃ fn,P.funcs[f]? = some fn∧(fn.name == "runtime.NumGoroutine")=false∧fn.body.isNone=false
 calls:∀ (w:World) (own:Nat→Prop) (args:List T) (vs:Array Value) (r:T),Good P w→(∀ b,own b→b<w.heap.size)→aY (aU w own) args vs→g args=some r →
  Calls P f vs w (fun e w'=>∃ v,e = .returned v∧aU w' own r v∧Below w.heap.size w w')
structure JE (P:Program) (f:FuncId) (c:Nat) (g:List T→Option T):Prop where
 entry:∃ fn,P.funcs[f]? = some fn∧(fn.name == "runtime.NumGoroutine")=false∧fn.body.isNone=false
 calls:∀ (w:World) (own:Nat→Prop) (args:List T) (vs:Array Value) (cs:List T),Good P w→(∀ b,own b→b<w.heap.size)→aY (aU w own) args vs→g args=some (.agg cs) →
  Calls P f vs w (fun e w'=>∃ vc:Array Value,e = .returned (.agg vc)∧Below w.heap.size w w'∧vc.size=cs.length∧∀ fl r0 rows,cs[c]? = some (.sl fl (r0::rows)) →
   ∃ aG sz C ty cc,(∀ i (h:i<cs.length),i≠c→aU w' (fun b=>own b∨b=aG) cs[i] (vc.getD i undef))∧vc.getD c undef = .slice (some ⟨aG,0,none⟩) (r0::rows).length C∧C≤maxLen∧w.heap.size≤aG ∧
    w'.heap[aG]? = some (.cells cc ty (0,0))∧bA w' (fun b=>own b∨b=aG) (fun _=>none) ⟨aG,sz,C,ty,(r0::rows).length⟩ (.cells cc ty (0,0)) (.arr false sz (r0::rows)))
structure fU (P:Program) (f:FuncId) (g:List T→Option (List (List T))):Prop where
 entry:∃ fn,P.funcs[f]? = some fn∧(fn.name == "runtime.NumGoroutine")=false∧fn.body.isNone=false
 calls:∀ (w:World) (own:Nat→Prop) (args:List T) (vs:Array Value) (rows:List (List T)),Good P w→(∀ b,own b→b<w.heap.size)→aY (aU w own) args vs→g args=some rows →
  Calls P f vs w (fun e w'=>∃ v,e = .returned v∧Below w.heap.size w w'∧(rows=[]→aU w' own (.sl false []) v) ∧
   (rows≠[]→∃ aG sz C ty c,v = .slice (some ⟨aG,0,none⟩) rows.length C∧C≤maxLen∧w.heap.size≤aG∧w'.heap[aG]? = some (.cells c ty (0,0)) ∧
    bA w' (fun b=>own b∨b=aG) (fun _=>none) ⟨aG,sz,C,ty,rows.length⟩ (.cells c ty (0,0)) (.arr false sz rows)))
structure rW (P:Program) (f:FuncId) (g:List T→Option (List (List T))):Prop where
 entry:∃ fn,P.funcs[f]? = some fn∧(fn.name == "runtime.NumGoroutine")=false∧fn.body.isNone=false
 calls:∀ (w:World) (own:Nat→Prop) (args:List T) (vs:Array Value) (rows:List (List T)),Good P w→(∀ b,own b→b<w.heap.size)→aY (aU w own) args vs→g args=some rows →
  Calls P f vs w (fun e w'=>∃ v,e = .returned v∧Below w.heap.size w w'∧(rows=[]→aU w' own (.sl true []) v) ∧
   (rows≠[]→∃ aG sz C ty c,v = .slice (some ⟨aG,0,none⟩) rows.length C∧C≤maxLen∧w.heap.size≤aG∧w'.heap[aG]? = some (.cells c ty (0,0)) ∧
    bA w' (fun b=>own b∨b=aG) (fun _=>none) ⟨aG,sz,C,ty,rows.length⟩ (.cells c ty (0,0)) (.arr false sz rows)))
structure bO (P:Program) (f:FuncId) (g:List D→(Nat→Option aB)→Nat→Option (D×(Nat→Option aB)×Nat)):Prop where
 entry:∃ fn,P.funcs[f]? = some fn∧(fn.name == "runtime.NumGoroutine")=false∧fn.body.isNone=false
 calls:∀ (cx:Cx) (ρ:Nat→Option Loc) (σ:Nat→Option aB) (n:Nat) (w:World) (args:List D) (vs:Array Value) (d:D) (σ':Nat→Option aB) (n':Nat),cx.P=P→Good P w→Inv cx ρ σ n w→aY (Rd w (aF cx ρ σ) ρ) args vs →
  g args σ n=some (d,σ',n')→Calls P f vs w (fun e w'=>∃ v ρ',e = .returned v∧Inv cx ρ' σ' n' w'∧aD cx ρ ρ' σ σ' w w'∧Rd w' (aF cx ρ' σ') ρ' d v)
structure jD (P:Program) (f:FuncId) (g:List D→(Nat→Option aB)→Nat→Option T):Prop where
 entry:∃ fn,P.funcs[f]? = some fn∧(fn.name == "runtime.NumGoroutine")=false∧fn.body.isNone=false
 calls:∀ (cx:Cx) (ρ:Nat→Option Loc) (σ:Nat→Option aB) (n:Nat) (w:World) (args:List D) (vs:Array Value) (r:T),cx.P=P→Good P w→Inv cx ρ σ n w→aY (Rd w (aF cx ρ σ) ρ) args vs →
  g args σ n=some r→Calls P f vs w (fun e w'=>∃ v,e = .returned v∧aU w' (aF cx ρ σ) r v∧Below w.heap.size w w')
structure rY (P:Program) (f:FuncId) (g:List T→Option T):Prop where
 entry:∃ fn,P.funcs[f]? = some fn∧(fn.name == "runtime.NumGoroutine")=false∧fn.body.isNone=false
 calls:∀ (w:World) (own:Nat→Prop) (args:List T) (vs:Array Value) (r:T),Good P w→(∀ b,own b→b<w.heap.size)→aY (aU w own) args vs→g args=some r →
  Calls P f vs w (fun e w'=>∃ v,e = .returned v∧aU w' (fun b=>b<w.heap.size) r v∧Below w.heap.size w w')
def QR (es:List (ByteArray×Int)):List (Value×T):=es.map fun e=>(.string e.1,.v (.int .i64 e.2))
def QX (g:List T→Option (List (ByteArray×Int))) (args:List T):Option T:=(g args).map fun es=>.mp (QR es)
def I7 (P:Program) (f:FuncId) (g:List T→Option T):Prop :=
 ∀ (w:World) (own:Nat→Prop) (args:List T) (vs:Array Value) (r:T),aY (aU w own) args vs→g args=some r→∃ v,(callFunc f vs).run P w = .ok (.value v) w∧aU w own r v
inductive Fn where
 | pure (g:List T→Option T)
 | fresh (g:List T→Option (List (List T)))
 | heap (g:List D→(Nat→Option aB)→Nat→Option (D×(Nat→Option aB)×Nat))
 | read (g:List D→(Nat→Option aB)→Nat→Option T)
 | perm (z:Nat) (g:List (List T)→Option (List (List T)))
 | mark
 | both (g:List D→(Nat→Option aB)→Nat→Option T) (h:List D→(Nat→Option aB)→Nat→Option (D×(Nat→Option aB)×Nat))
 | new (g:List T→Option T)
 | J7 (g:List T→Option (List (ByteArray×Int)))
 | ext (g:List T→Option T)
 | mT (g:List T→Option (List (List T)))
 | grow (z:Nat) (g:List (List T)→List T→Option (List (List T)))
 | dup (z b:Nat)
 | room (z b:Nat)
 | part (c:Nat) (g:List T→Option T)
 | N8 (g:List T→Option T)
 | AB (vs:List TypeId) (g:List T→Option T)
 | RO (g:List T→Option T)
 | QY (g:List T→Option T)
def AR (z:Nat) (g:List (List T)→Option (List (List T))):List D→(Nat→Option aB)→Nat→Option (D×(Nat→Option aB)×Nat):=fun args σ n=>match args with
 | [.own k]=>match σ k with
  | some (.arr false z' rows)=>match decide (z'=z) with
   | true=>(g rows).map fun rows'=>(.p (.v (.tuple #[])),aQ σ k (some (.arr false z rows')),n+1)
   | false=>none
  | _=>none
 | _=>none
def AP (z:Nat) (g:List (List T)→List T→Option (List (List T))):List D→(Nat→Option aB)→Nat→Option (D×(Nat→Option aB)×Nat):=fun args σ n=>match args with
 | .own k::rest=>match σ k with
  | some (.arr false z' rows)=>match decide (z'=z),dM rest with
   | true,some ts=>(g rows ts).map fun rows'=>(.own n,aQ (aQ σ k none) n (some (.arr false z rows')),n+1)
   | _,_=>none
  | _=>none
 | _=>none
def vI (z b:Nat):List D→(Nat→Option aB)→Nat→Option (D×(Nat→Option aB)×Nat):=fun args σ n=>match args with
 | [.own k]=>match σ k with
  | some (.arr _ z' rows)=>match decide (z'=z)&&decide (rows.length*b≤140737488355328)&&decide (rows.length≤140737488355328) with
   | true=>some (.own n,aQ σ n (some (.arr false z rows)),n+1)
   | false=>none
  | _=>none
 | [.p t]=>match bT t with
  | some (_,rows)=>match (rows.all fun r=>decide (r.length=z))&&decide (rows.length*b≤140737488355328)&&decide (rows.length≤140737488355328) with
   | true=>some (.own n,aQ σ n (some (.arr false z rows)),n+1)
   | false=>none
  | none=>none
 | _=>none
def AU (z b:Nat):List D→(Nat→Option aB)→Nat→Option (D×(Nat→Option aB)×Nat):=fun args σ n=>match args with
 | [.p (.v (.slice none 0 0)),.p (.v (.int .i64 m))]=>match decide (0≤m)&&decide (m.toNat*b≤140737488355328)&&decide (m.toNat≤140737488355328) with
  | true=>some (.own n,aQ σ n (some (.arr false z [])),n+1)
  | false=>none
 | _=>none
def yU:List T→T
 | [t]=>t
 | ts=>.aR ts
def AQ (g:List T→Option T):List D→(Nat→Option aB)→Nat→Option (D×(Nat→Option aB)×Nat):=fun args σ n=>match args with
 | .ptr k i j::rest=>match decide (i=0)&&decide (j=0),σ k with
  | true,some (.rows false [ds])=>match dM ds,dM rest with
   | some cs,some ts=>match g (.agg cs::ts) with
    | some (.aR (.agg cs'::ts'))=>match decide (cs'.length=cs.length) with
     | true=>some (.p (yU ts'),aQ σ k (some (.rows false [cs'.map .p])),n+1)
     | false=>none
    | _=>none
   | _,_=>none
  | _,_=>none
 | _=>none
def iB (σ:Nat→Option aB):List (Nat×D)→Option (List (Nat×D)×(Nat→Option aB))
 | []=>some ([],σ)
 | (i,.own k)::r=>match σ k with
  | some (.arr false z rows)=>(iB (aQ σ k none) r).map fun x=>((i,.p (.sl false rows))::x.1,x.2)
  | _=>none
 | (i,d)::r=>(iB σ r).map fun x=>((i,d)::x.1,x.2)
def T.canon:Nat→T→T
 | _,.sl _ rows=>.sl false rows
 | _,.v (.slice none 0 0)=>.sl false []
 | _,.ne _=>.sl false []
 | n+1,.agg cs=>.agg (cs.map (T.canon n))
 | n+1,.aR cs=>.aR (cs.map (T.canon n))
 | _,t=>t
def c9:List D→List D×List D
 | []=>([],[])
 | .ptr k i j::r=>([],.ptr k i j::r)
 | d::r=>(d::(c9 r).1,(c9 r).2)
def BO:List D→Option (List Nat)
 | []=>some []
 | .ptr k i j::r=>match decide (i=0)&&decide (j=0) with
  | true=>(BO r).map (k :: ·)
  | false=>none
 | _=>none
def F5:List Nat→List Nat→Bool
 | [],[]=>true
 | a::l,b::m=>Nat.beq a b&&F5 l m
 | _,_=>false
def nodupB:List Nat→Bool
 | []=>true
 | a::l=>(l.all fun b=>!Nat.beq a b)&&nodupB l
def iY (σ:Nat→Option aB):List Nat→Option (List (List T))
 | []=>some []
 | k::r=>match σ k with
  | some (.rows false [ds])=>match dM ds,iY σ r with
   | some row,some rs=>some (row.map (T.canon 4)::rs)
   | _,_=>none
  | _=>none
def L5 (f:FuncId) (σ:Nat→Option aB) (s:Nat) (ks:List Nat):Option (List T):=match σ s with
 | some (.rows _ [[.fn f' [] caps]])=>match decide (f'=f),dM (c9 caps).1,BO (c9 caps).2 with
  | true,some vs,some ks'=>match F5 ks' ks with
   | true=>some (vs.map (T.canon 4))
   | false=>none
  | _,_,_=>none
 | _=>none
def sJ (f:FuncId) (args:List D) (σ:Nat→Option aB):Option (List T×List (List T)×List Nat×(Nat→Option aB)) :=
 match iB σ ((c9 args).1.map fun d=>(0,d)),BO (c9 args).2 with
 | some (ps,σ1),some ks=>match dM (ps.map (·.2)),ks.getLast?,nodupB ks with
  | some pre,some s,true=>match iY σ1 ks.dropLast,L5 f σ1 s ks with
   | some rows,some vals=>some (.aR (pre.map (T.canon 4)) :: .aR vals::rows.map .agg,rows,ks.dropLast,σ1)
   | _,_=>none
  | _,_,_=>none
 | _,_=>none
def tV:List (List T)→List T→Bool
 | [],_=>true
 | row::rows,.agg cs::ts=>Nat.beq cs.length row.length&&tV rows ts
 | _,_=>false
def rF (σ:Nat→Option aB):List Nat→List T→(Nat→Option aB)
 | k::ks,.agg cs::ts=>rF (aQ σ k (some (.rows false [cs.map .p]))) ks ts
 | _,_=>σ
def pU (f:FuncId) (g:List T→Option T):List D→(Nat→Option aB)→Nat→Option (D×(Nat→Option aB)×Nat):=fun args σ n=>match sJ f args σ with
 | some (ins,rows,kk,σ1)=>match g ins with
  | some (.aR ts)=>match tV rows ts with
   | true=>some (.p (yU (ts.drop rows.length)),rF σ1 kk ts,n+1)
   | false=>none
  | _=>none
 | none=>none
def F1 (args:List D) (σ:Nat→Option aB):Option (Nat×List T×List T×(Nat→Option aB)):=match args with
 | .ptr k i j::rest=>match decide (i=0)&&decide (j=0),iB σ (rest.map fun d=>(0,d)) with
  | true,some (ps,σ1)=>match σ1 k,dM (ps.map (·.2)) with
   | some (.rows false [ds]),some ts=>match dM ds with
    | some cs=>some (k,cs.map (T.canon 4),ts.map (T.canon 4),σ1)
    | none=>none
   | _,_=>none
  | _,_=>none
 | _=>none
def AS (g:List T→Option T):List D→(Nat→Option aB)→Nat→Option (D×(Nat→Option aB)×Nat):=fun args σ n=>match F1 args σ with
 | some (k,cs,ts,σ1)=>match g (.agg cs::ts) with
  | some (.aR (.agg cs'::ts'))=>match Nat.beq cs'.length cs.length with
   | true=>some (.p (yU ts'),aQ σ1 k (some (.rows false [cs'.map .p])),n+1)
   | false=>none
  | _=>none
 | none=>none
def AO (g:List T→Option T):List D→(Nat→Option aB)→Nat→Option (D×(Nat→Option aB)×Nat):=fun args σ n=>match iB σ (args.map fun d=>(0,d)) with
 | some (ps,σ1)=>match dM (ps.map (·.2)) with
  | some ts=>(g ts).map fun r=>(.p r,σ1,n+1)
  | none=>none
 | none=>none
def P4 (P:Program) (f:FuncId):Fn→Prop
 | .pure g=>aW P f g
 | .fresh g=>fU P f g
 | .heap g=>bO P f g
 | .read g=>jD P f g
 | .perm z g=>bO P f (AR z g)
 | .mark=>True
 | .both g h=>jD P f g∧bO P f h
 | .new g=>rY P f g
 | .J7 g=>rY P f (QX g)
 | .ext g=>I7 P f g
 | .mT g=>rW P f g
 | .grow z g=>bO P f (AP z g)
 | .dup z y=>bO P f (vI z y)
 | .room z y=>bO P f (AU z y)
 | .part c g=>JE P f c g
 | .N8 g=>bO P f (AQ g)
 | .AB _ g=>bO P f (pU f g)
 | .RO g=>bO P f (AS g)
 | .QY g=>bO P f (AO g)
def Env:=FuncId→Option Fn
def Env.of:List (FuncId×Fn)→Env
 | [],_=>none
 | (k,x)::r,f=>if k=f then some x else Env.of r f
def Env.marked (E:Env) (t:TypeId):Bool:=match E (1000000000+t) with
 | some .mark=>true
 | _=>false
def Env.still (E:Env) (t:TypeId):Bool:=match E (4000000000+t) with
 | some .mark=>true
 | _=>false
def Env.KH (E:Env) (f:FuncId):Bool:=match E f with
 | some (.pure _)=>true
 | some (.read _)=>true
 | some (.new _)=>true
 | some (.J7 _)=>true
 | some (.ext _)=>true
 | _=>false
def aL (P:Program) (E:Env):Prop:=∀ f x,E f=some x→P4 P f x
def Env.view (E:Env) (draw:Bool):Env:=fun f=>match E f with
 | some (.both g h)=>match draw with
  | true=>some (.read g)
  | false=>some (.heap h)
 | x=>x
theorem aL.view {P:Program} {E:Env} (h:aL P E) (draw:Bool):aL P (E.view draw):=by
 intro f x hx
 unfold Env.view at hx
 split at hx
 ·rename_i g k he
  have hk:jD P f g∧bO P f k:=h f _ he
  split at hx
  ·cases hx;exact hk.1
  ·cases hx;exact hk.2
 ·exact h f x hx
theorem aL.nil (P:Program):aL P (Env.of []):=fun f x h=>by simp[Env.of] at h
theorem aL.cons {P:Program} {l:List (FuncId×Fn)} {f:FuncId} {x:Fn} (h:P4 P f x) (hE:aL P (Env.of l)):aL P (Env.of ((f,x)::l)):=by
 intro f' x' hx
 simp only[Env.of] at hx
 split at hx
 ·rename_i e;cases hx;subst e;exact h
 ·exact hE f' x' hx
def T.hU:Nat→T→Bool
 | _,.v _=>true
 | n+1,.aR ts=>ts.all (T.hU n)
 | n+1,.agg ts=>ts.all (T.hU n)
 | _,_=>false
def T.flat (t:T):Bool:=T.hU 3 t
theorem aU.OJ {w:World} {own own':Nat→Prop}:∀ (n:Nat) {t:T} {v:Value},aU w own t v→T.hU n t=true→aU w own' t v:=by
 intro n
 induction n with
 | zero =>
  intro t v h hf
  cases h with
  | v=>exact .v _
  | _=>simp[T.hU] at hf
 | succ n ih =>
  intro t v h hf
  cases h with
  | v=>exact .v _
  | aR cs vs h1 h2 =>
   simp only[T.hU] at hf
   exact .aR cs vs h1 fun i hi=>ih (h2 i hi) (List.all_eq_true.1 hf _ (List.getElem_mem hi))
  | agg cs vs h1 h2 =>
   simp only[T.hU] at hf
   exact .agg cs vs h1 fun i hi=>ih (h2 i hi) (List.all_eq_true.1 hf _ (List.getElem_mem hi))
  | _=>simp[T.hU] at hf
theorem aU.pC {w:World} {own own':Nat→Prop} {t:T} {v:Value} (h:aU w own t v) (hf:t.flat=true):aU w own' t v:=aU.OJ 3 h hf
def dK (c:D):Option (FuncId×List D×List D) :=
 match c with
 | .p (.fn f a b)=>some (f,a.map .p,b.map .p)
 | .fn f a b=>some (f,a,b)
 | _=>none
def gK (E:Env) (σ:Nat→Option aB) (n:Nat) (c:D) (args:List D):Option D :=
 match dK c with
 | some (f,a,b) =>
  match E f with
  | some (.pure g) =>
   match dM (a++args++b) with
   | some ts=>(g ts).map .p
   | none =>
    match (a++args++b).mapM (c0 σ 4) with
    | some ts=>match g ts with
     | some r=>if r.flat then some (.p r) else none
     | none=>none
    | none=>none
  | some (.read g)=>(g (a++args++b) σ n).map .p
  | some (.new g)=>match (a++args++b).mapM (c0 σ 4) with
   | some ts=>(g ts).map .p
   | none=>none
  | some (.J7 g)=>match (a++args++b).mapM (c0 σ 4) with
   | some ts=>(g ts).map fun es=>.p (.mp (QR es))
   | none=>none
  | some (.ext g)=>match dM (a++args++b) with
   | some ts=>(g ts).map .p
   | none=>none
  | _=>none
 | none=>none
section
variable {cx : Cx} {ρ : Nat → Option Loc} {σ : Nat → Option aB} {n : Nat} {w : World}
theorem oS {own:Nat→Prop} {c:D} {x:Value} {f:FuncId} {a b:List D} (hc:Rd w own ρ c x) (h:dK c=some (f,a,b)):∃ va vb,x = .func (.func f) va vb∧aY (Rd w own ρ) a va∧aY (Rd w own ρ) b vb:=by
 unfold dK at h
 split at h
 ·cases h
  cases hc with
  | p _ _ hc =>
  cases hc with
  | fn _ _ _ va vb h1 h2 h3 h4=>exact ⟨va,vb,rfl,aY.map (R:=aU w own) _ ⟨h1,h3⟩ (fun _ _ h=>.p _ _ h),aY.map (R:=aU w own) _ ⟨h2,h4⟩ (fun _ _ h=>.p _ _ h)⟩
 ·cases h
  cases hc with
  | fn _ _ _ va vb h1 h2 h3 h4=>exact ⟨va,vb,rfl,⟨h1,h3⟩,⟨h2,h4⟩⟩
 ·cases h
theorem jE {own:Nat→Prop} {ds:List D} {ts:List T} {vs:Array Value} (h:aY (Rd w own ρ) ds vs) (ht:dM ds=some ts):aY (aU w own) ts vs:=by
 have e:=dG ht
 subst e
 refine ⟨by simpa using h.1,fun i hi=>?_⟩
 have:=h.2 i (by simpa using hi)
 simp only[List.getElem_map] at this
 cases this with
 | p _ _ h=>exact h
theorem z7 {E:Env} (hE:aL cx.P E) (hI:Inv cx ρ σ n w) (hG:Good cx.P w) {c:D} {x:Value} {args:List D} {vargs:Array Value} {r:D} (hc:Rd w (aF cx ρ σ) ρ c x) (ha:aY (Rd w (aF cx ρ σ) ρ) args vargs)
  (h:gK E σ n c args=some r):(∃ f as,(do let d ←Deferred.ofValue x vargs;invoke d.target d.args:Sem Next).run cx.P w = .ok (.enter f as) w ∧
   Calls cx.P f as w (fun e w'=>∃ v,e = .returned v∧Rd w' (aF cx ρ σ) ρ r v∧Below w.heap.size w w')) ∨
   ∃ v,(do let d ←Deferred.ofValue x vargs;invoke d.target d.args:Sem Next).run cx.P w = .ok (.value v) w∧Rd w (aF cx ρ σ) ρ r v:=by
 have newC:∀ {f:FuncId} {g:List T→Option T} {ds:List D} {va vb:Array Value} {ts:List T} {r':T},rY cx.P f g→aY (Rd w (aF cx ρ σ) ρ) ds (va++vargs++vb)→ds.mapM (c0 σ 4)=some ts→g ts=some r' →
   ∃ f' as,(do let d ←Deferred.ofValue (.func (.func f) va vb) vargs;invoke d.target d.args:Sem Next).run cx.P w = .ok (.enter f' as) w∧Calls cx.P f' as w (fun e w'=>∃ v,e = .returned v∧Rd w' (aF cx ρ σ) ρ (.p r') v∧Below w.heap.size w w'):=by
  intro f g ds va vb ts r' hf hargs hts hr
  obtain ⟨fn,e1,e2,e3⟩:=hf.entry
  refine ⟨f,va++vargs++vb,?_,?_⟩
  ·have e2':¬ fn.name = "runtime.NumGoroutine" := by simpa using e2
   have e3':¬ fn.body=none:=by intro h;simp[h] at e3
   simp[Deferred.ofValue,invoke,callFunc,e1,e2',e3']
  ·have hts':=nW (fun hd ht=>mU hI 4 hd ht) hargs hts
   refine (hf.calls w cx.own ts _ r' hG (fun b hb=>by have:=hI.eC b hb;have:=hI.below.size;omega) hts' hr).mono ?_
   rintro e w' ⟨v,rfl,h3,h4⟩
   exact ⟨v,rfl,.p _ _ (h3.less fun b hb=>aF.lt hI hb),h4⟩
 unfold gK at h
 split at h
 ·rename_i f a b hcal
  obtain ⟨va,vb,rfl,h1,h2⟩:=oS hc hcal
  split at h
  ·rename_i g hg
   have hf:aW cx.P f g:=hE f _ hg
   obtain ⟨fn,e1,e2,e3⟩:=hf.entry
   have hargs:aY (Rd w (aF cx ρ σ) ρ) (a++args++b) (va++vargs++vb):=(h1.append ha).append h2
   refine .inl ⟨f,va++vargs++vb,?_,?_⟩
   ·have e2':¬ fn.name = "runtime.NumGoroutine" := by simpa using e2
    have e3':¬ fn.body=none:=by intro h;simp[h] at e3
    simp[Deferred.ofValue,invoke,callFunc,e1,e2',e3']
   ·split at h
    ·rename_i ts hts
     simp only[Option.map_eq_some_iff] at h
     obtain ⟨r',hr,rfl⟩:=h
     refine (hf.calls w (aF cx ρ σ) ts _ r' hG (fun b hb=>aF.lt hI hb) (jE hargs hts) hr).mono ?_
     rintro e w' ⟨v,rfl,h3,h4⟩
     exact ⟨v,rfl,.p _ _ h3,h4⟩
    ·split at h
     ·rename_i ts hts
      split at h
      ·rename_i r' hr
       split at h
       ·rename_i hfl
        cases h
        have hts':=nW (fun hd ht=>mU hI 4 hd ht) hargs hts
        refine (hf.calls w cx.own ts _ r' hG (fun b hb=>by have:=hI.eC b hb;have:=hI.below.size;omega) hts' hr).mono ?_
        rintro e w' ⟨v,rfl,h3,h4⟩
        exact ⟨v,rfl,.p _ _ (h3.pC hfl),h4⟩
       ·cases h
      ·cases h
     ·cases h
  ·rename_i g hg
   have hf:jD cx.P f g:=hE f _ hg
   obtain ⟨fn,e1,e2,e3⟩:=hf.entry
   have hargs:aY (Rd w (aF cx ρ σ) ρ) (a++args++b) (va++vargs++vb):=(h1.append ha).append h2
   refine .inl ⟨f,va++vargs++vb,?_,?_⟩
   ·have e2':¬ fn.name = "runtime.NumGoroutine" := by simpa using e2
    have e3':¬ fn.body=none:=by intro h;simp[h] at e3
    simp[Deferred.ofValue,invoke,callFunc,e1,e2',e3']
   ·simp only[Option.map_eq_some_iff] at h
    obtain ⟨r',hr,rfl⟩:=h
    refine (hf.calls cx ρ σ n w _ _ r' rfl hG hI hargs hr).mono ?_
    rintro e w' ⟨v,rfl,h3,h4⟩
    exact ⟨v,rfl,.p _ _ h3,h4⟩
  ·rename_i g hg
   split at h
   ·rename_i ts hts
    simp only[Option.map_eq_some_iff] at h
    obtain ⟨r',hr,rfl⟩:=h
    exact .inl (newC (hE f _ hg) ((h1.append ha).append h2) hts hr)
   ·cases h
  ·rename_i g hg
   split at h
   ·rename_i ts hts
    simp only[Option.map_eq_some_iff] at h
    obtain ⟨es,hr,rfl⟩:=h
    exact .inl (newC (g:=QX g) (hE f _ hg) ((h1.append ha).append h2) hts (by simp[QX,hr]))
   ·cases h
  ·rename_i g hg
   have hf:I7 cx.P f g:=hE f _ hg
   have hargs:aY (Rd w (aF cx ρ σ) ρ) (a++args++b) (va++vargs++vb):=(h1.append ha).append h2
   split at h
   ·rename_i ts hts
    simp only[Option.map_eq_some_iff] at h
    obtain ⟨r',hr,rfl⟩:=h
    obtain ⟨v,h3,h4⟩:=hf w _ ts _ r' (jE hargs hts) hr
    refine .inr ⟨v,?_,.p _ _ h4⟩
    simpa [Deferred.ofValue,invoke] using h3
   ·cases h
  ·cases h
 ·cases h
end
end Go.Pv
