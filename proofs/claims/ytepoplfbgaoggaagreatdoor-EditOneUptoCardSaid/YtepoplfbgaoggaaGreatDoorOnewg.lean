/-
  The pure evaluator, part g: frozen data, calls of functions that are known, and the operations that leave the boxes alone, all together.
-/
import Derived.Test.YtepoplfbgaoggaaGreatDoorOnewf
set_option linter.defProp false
set_option linter.unusedSimpArgs false
namespace Go.Pv
open Go Go.RowKit
def j1 (σ:Nat->Option bL):Nat->D->Option T
 | _,.p t=>some t
 | n+1,.agg cs=>(cs.mapM (j1 σ n)).map .agg
 | n+1,.cB cs=>(cs.mapM (j1 σ n)).map .cB
 | n+1,.fn f a b=>match a.mapM (j1 σ n),b.mapM (j1 σ n) with
  | some a,some b=>some (.fn f a b)
  | _,_=>none
 | n+1,.ptr k i j =>
  match (σ k).bind fJ with
  | some rs=>match rs[i]? with
   | some r=>if j<r.length then ((r.drop j).mapM (j1 σ n)).map .ref else none
   | none=>none
  | _=>none
 | n+1,.own k =>
  match σ k with
  | some (.arr _ _ rows)=>some (.sl false rows)
  | some (.rows _ rs)=>(rs.mapM λ(r:List D)=>r.mapM (j1 σ n)).map (.sl false)
  | _=>none
 | n+1,.bs k off len =>
  match σ k with
  | some (.arr _ _ rows)=>if off+len<=rows.length then some (.sl false ((rows.drop off).take len)) else none
  | some (.rows _ rs)=>if off+len<=rs.length then (((rs.drop off).take len).mapM λ(r:List D)=>r.mapM (j1 σ n)).map (.sl false) else none
  | _=>none
 | n+1,.map k =>
  match σ k with
  | some (.map _ es)=>(es.mapM λ(e:Value×D)=>(j1 σ n e.2).map λt=>(e.1,t)).map .mp
  | _=>none
 | _,_=>none
section
variable {cx : Cx} {ρ : Nat -> Option Loc} {σ : Nat -> Option bL} {n : Nat} {w : World}
variable {l:Loc}
def Inv.BK8 (h:Inv cx ρ σ n w) {k:Nat} (hl:ρ k=some l) (hL:0<l.L+l.C):¬ cx.own l.bV:=((h.new k l hl).2 hL).2
variable {own':Nat->Prop}
def cS.less {own:Nat->Prop} (ho:∀ b,own' b->own b) {t:T} {v:Value} (h:cS w own t v):cS w own' t v :=
 h.mono (λ_ _ _=>rfl) (al _) (λb _ hn hc=>hn (ho b hc))
variable {own0:Nat->Prop}{τ:Nat->Option bL}{m:Nat}{ds:List D}{ts:List T}
def HJ {own:Nat->Prop} (ih:∀ {d:D} {t:T} {v:Value},Rd w own ρ d v->j1 τ m d=some t->cS w own0 t v) {vs:Array Value} (h:dO (Rd w own ρ) ds vs)
  (hf:ds.mapM (j1 τ m)=some ts):dO (cS w own0) ts vs:=by
 obtain ⟨h1,h2⟩:=mapM_some_length hf;refine ⟨by rw[h1];exact h.1,λi hi=>?_⟩;exact ih (h.2 i (by omega)) (h2 i (by omega) hi)
def BRZ (τ:Nat->Option bL) (m:Nat) (t:T):j1 τ m (.p t)=some t:=by cases m<;>rfl
def AJG (τ:Nat->Option bL) (m:Nat):∀ (r:List T),(r.map D.p).mapM (j1 τ m)=some r
 | []=>rfl
 | t::r=>by simp only[List.map_cons,List.mapM_cons,BRZ,AJG τ m r];rfl
def LS (τ:Nat->Option bL) (m:Nat):∀ (rows:List (List T)),(bK rows).mapM (λ(r:List D)=>r.mapM (j1 τ m))=some rows
 | []=>rfl
 | r::rows=>by
  have:=LS τ m rows;simp only[bK,List.map_cons,List.mapM_cons] at this ⊢;simp only[AJG,this];rfl
def OU (h:Inv cx ρ σ n w) {k:Nat} {rs:List (List D)} (hk:(σ k).bind fJ=some rs) (hl:ρ k=some l) (hL:0<l.L+l.C) (_:l.C<=maxLen) (hdis:¬ own0 l.bV)
  (ih:∀ {d:D} {t:T} {v:Value},Rd w (bY cx ρ σ) ρ d v->j1 τ m d=some t->cS w own0 t v) {off len:Nat} (hle:off+len<=rs.length) {rows:List (List T)} (hrows:((rs.drop off).take len).mapM (λ(r:List D)=>r.mapM (j1 τ m))=some rows) (hpos:0<len) :
  cS w own0 (.sl false rows) (.slice (some ⟨l.bV,off*l.sz,none⟩) len (l.C-off)):=by
 obtain ⟨g1,g2⟩:=mapM_some_length hrows;obtain ⟨l',c,hl',_,_,hb⟩:=h.rows hk (by intro e;subst e;simp at hle;omega);rw[hl] at hl';cases hl';have hlen:rows.length=len:=by rw[g1];simp;omega
 have hpos:0<rows.length:=by omega
 have hrow:∀ i (hi:i<rows.length),∃ (h2:off+i<rs.length),rs[off+i].mapM (j1 τ m)=some rows[i]:=by
  intro i hi;have:=g2 i (by omega) hi;refine ⟨by omega,?_⟩;simpa using this
 have hw:∀ i (hi:i<rows.length),rows[i].length=l.sz:=by
  intro i hi;obtain ⟨h2,h3⟩:=hrow i hi;rw[(mapM_some_length h3).1];exact hb.width _ (ak h2)
 have hcell:∀ i j (hi:i<rows.length) (hj:j<l.sz),∃ u,w.cell? ⟨l.bV,off*l.sz+i*l.sz+j,none⟩=some u/\u.oneCell'=true/\∀ (hj:j<rows[i].length),cS w own0 rows[i][j] u:=by
  intro i j hi hj;obtain ⟨h2,h3⟩:=hrow i hi;obtain ⟨e1,e2⟩:=mapM_some_length h3;have hwid:=hb.width _ (ak h2);obtain ⟨u,u1,u2,u3⟩:=h.cellOf hk (i:=off+i) (r:=rs[off+i]) (by simp[h2]) (j:=j) (by omega) hl;refine ⟨u,by rw[<-Nat.add_mul];exact u1,u3,λhj'=>ih u2 (e2 j (by omega) hj')⟩
 have hex:∃ f:Nat->Nat->Value,∀ i j (hi:i<rows.length) (hj:j<l.sz),w.cell? ⟨l.bV,off*l.sz+i*l.sz+j,none⟩=some (f i j)/\(f i j).oneCell'=true/\∀ (hj:j<rows[i].length),cS w own0 rows[i][j] (f i j):=by
  refine ⟨λi j=>if hij:i<rows.length/\j<l.sz then Classical.choose (hcell i j hij.1 hij.2) else undef,λi j hi hj=>?_⟩;have hs:=Classical.choose_spec (hcell i j hi hj);simp only[dif_pos (show i<rows.length/\j<l.sz from ⟨hi,hj⟩)];exact hs
 obtain ⟨f,hf⟩:=hex;rw[<-hlen];have hsm:=hb.small;have hCl:=hb.len;exact .sl false rows l.sz l.bV (off*l.sz) (l.C-off) f (by omega) (by omega) (by simp) hdis ((h.new k l hl).2 hL).1 (λr hr=>by
  obtain ⟨i,hi,rfl⟩:=List.mem_iff_getElem.1 hr;exact hw i hi) hb.pos (λi j hi hj=>⟨(hf i j hi hj).1,(hf i j hi hj).2.1⟩) (λi j hi hj=>(hf i j hi (by rw[<-hw i hi];exact hj)).2.2 hj)
def UE (h:Inv cx ρ σ n w) (h0:∀ b,own0 b->bY cx ρ σ b) (hτ:∀ k x,τ k=some x->σ k=some x) (hd:∀ k x l,τ k=some x->ρ k=some l->0<l.L+l.C->¬ own0 l.bV) :
  ∀ (m:Nat) {d:D} {t:T} {v:Value},Rd w (bY cx ρ σ) ρ d v->j1 τ m d=some t->cS w own0 t v:=by
 have hdis:=hd;clear hd;intro m
 induction m with
 | zero =>
  intro d t v hd hf;cases d<;>simp[j1] at hf;subst hf;cases hd with
  | p _ _ hd=>exact hd.less h0
 | succ m ih =>
  intro d t v hd hf;cases hd with
  | p t' _ hd=>simp[j1] at hf;subst hf;exact hd.less h0
  | agg cs vs h1 h2 =>
   simp only[j1,aa] at hf;obtain ⟨ts,hts,rfl⟩:=hf;have:=HJ ih ⟨h1,h2⟩ hts;exact .agg _ _ this.1 this.2
  | cB cs vs h1 h2 =>
   simp only[j1,aa] at hf;obtain ⟨ts,hts,rfl⟩:=hf;have:=HJ ih ⟨h1,h2⟩ hts;exact .cB _ _ this.1 this.2
  | fn f fs cs va vb h1 h2 h3 h4 =>
   simp only[j1] at hf;split at hf
   ·rename_i a b ha hb;cases hf;have k1:=HJ ih ⟨h1,h3⟩ ha;have k2:=HJ ih ⟨h2,h4⟩ hb;exact .fn _ _ _ _ _ k1.1 k2.1 k1.2 k2.2
   ·cases hf
  | ptr k i j l hl =>
   simp only[j1] at hf;split at hf
   ·rename_i rs hk;have hk':(σ k).bind fJ=some rs:=by
     simp only[Option.bind_eq_some_iff] at hk ⊢;obtain ⟨x,hx,hr⟩:=hk;exact ⟨x,hτ _ _ hx,hr⟩
    obtain ⟨x0,hx0,_⟩:=Option.bind_eq_some_iff.1 hk;split at hf
    ·rename_i r hr;split at hf
     ·rename_i hj;simp only[aa] at hf;obtain ⟨ts,hts,rfl⟩:=hf;obtain ⟨g1,g2⟩:=mapM_some_length hts;have hcell:=λq hq=>h.cellOf hk' hr (j:=j+q) hq hl;have hL:0<l.L+l.C:=by
       obtain ⟨l',c,hl',hL,_⟩:=h.rows hk' (l9 hr);rw[hl] at hl';cases hl';exact hL
      have hex:∃ f:Nat->Value,∀ q,q<ts.length->w.cell? ⟨l.bV,(i*l.sz+j)+q,none⟩=some (f q)/\(f q).oneCell'=true/\∀ (hq:q<ts.length),cS w own0 ts[q] (f q):=by
       refine ⟨λq=>if hq:j+q<r.length then Classical.choose (hcell q hq) else undef,λq hq=>?_⟩;have hq':j+q<r.length:=by rw[g1] at hq;simp at hq;omega
       have hs:=Classical.choose_spec (hcell q hq');simp only[dif_pos hq'];refine ⟨by rw[Nat.add_assoc];exact hs.1,hs.2.2,λ_=>ih hs.2.1 ?_⟩;have:=g2 q (by omega) hq;simpa using this
      obtain ⟨f,hf⟩:=hex;exact .ref ts l.bV _ f (hdis _ _ _ hx0 hl hL) ((h.new k l hl).2 hL).1 (λq hq=>⟨(hf q hq).1,(hf q hq).2.1⟩) (λq hq=>(hf q hq).2.2 hq)
     ·cases hf
    ·cases hf
   ·cases hf
  | own k l hl h0 hc1 hc2 =>
   have key:∃ (x:bL) (rs:List (List D)) (rows:List (List T)),τ k=some x/\fJ x=some rs/\rs.mapM (λ(r:List D)=>r.mapM (j1 τ m))=some rows/\t = .sl false rows:=by
    simp only[j1] at hf;split at hf
    ·rename_i ro z rows hk;cases hf;exact ⟨_,_,rows,hk,rfl,LS τ m rows,rfl⟩
    ·rename_i ro rs hk;simp only[aa] at hf;obtain ⟨rows,h1,rfl⟩:=hf;exact ⟨_,rs,rows,hk,rfl,h1,rfl⟩
    ·cases hf
   obtain ⟨x,rs,rows,hk,hr,hrows,rfl⟩:=key;have hk':(σ k).bind fJ=some rs:=by rw[hτ _ _ hk];exact hr
   have hL:=h.qA hk' hl;by_cases hz0:l.L=0
   ·have hlen:=(mapM_some_length hrows).1;have:rows=[]:=List.eq_nil_of_length_eq_zero (by omega);subst this;rw[hz0];exact .dF false _ _ (by simp) (by simp)
   have:=OU h hk' hl h0 hc2 (hdis _ _ _ hk hl h0) ih (off:=0) (len:=rs.length) (by omega) (by simpa using hrows) (by omega);rw[hL] at this;simpa using this
  | eW k l a hl h0 =>
   have hrs:∀ ro z rows,τ k=some (.arr ro z rows)->rows=[]:=by
    intro ro z rows hk;have:=h.qA (k:=k) (rs:=bK rows) (by rw[hτ _ _ hk];rfl) hl;rw[show l.L=0 by omega] at this;simpa using this
   simp only[j1] at hf;split at hf
   ·rename_i ro z rows hk;cases hf;rw[hrs ro z rows hk];exact .dF false a 0 (by simp) (by simp)
   ·rename_i ro rs hk;simp only[aa] at hf;obtain ⟨rows,h1,rfl⟩:=hf;have:=h.qA (k:=k) (rs:=rs) (by rw[hτ _ _ hk];rfl) hl;rw[show l.L=0 by omega] at this;have h2:=(mapM_some_length h1).1;rw[this] at h2;rw[List.length_eq_zero_iff.1 h2];exact .dF false a 0 (by simp) (by simp)
   ·cases hf
  | bs k off len l hl hc1 hc2 =>
   have key:∃ (x:bL) (rs:List (List D)) (rows:List (List T)),τ k=some x/\fJ x=some rs/\off+len<=rs.length/\((rs.drop off).take len).mapM (λ(r:List D)=>r.mapM (j1 τ m))=some rows/\t = .sl false rows:=by
    simp only[j1] at hf;split at hf
    ·rename_i ro z rows hk;split at hf
     ·rename_i hle;cases hf;refine ⟨_,_,_,hk,rfl,by simpa using hle,?_,rfl⟩;have:=LS τ m ((rows.drop off).take len);simpa [bK,List.map_drop,List.map_take] using this
     ·cases hf
    ·rename_i ro rs hk;split at hf
     ·rename_i hle;simp only[aa] at hf;obtain ⟨rows,h1,rfl⟩:=hf;exact ⟨_,rs,rows,hk,rfl,hle,h1,rfl⟩
     ·cases hf
    ·cases hf
   obtain ⟨x,rs,rows,hk,hr,hle,hrows,rfl⟩:=key;have hk':(σ k).bind fJ=some rs:=by rw[hτ _ _ hk];exact hr
   have hlen:rows.length=len:=by rw[(mapM_some_length hrows).1];simp;omega
   by_cases he:rows=[]
   ·subst he;simp at hlen;subst hlen;exact .dF false _ _ (by simp) (by simp)
   ·have hpos:0<rows.length:=List.length_pos_iff.2 he;obtain ⟨l',_,hl',hL,_⟩:=h.rows hk' (by intro e;subst e;simp at hle;omega);rw[hl] at hl';cases hl';have:=OU h hk' hl hL hc2 (hdis _ _ _ hk hl hL) ih hle hrows (by omega);exact this
  | map k l hl =>
   simp only[j1] at hf;split at hf
   ·rename_i ro es hk;simp only[aa] at hf;obtain ⟨ts,hts,rfl⟩:=hf;obtain ⟨g1,g2⟩:=mapM_some_length hts;obtain ⟨l',hl',hL,o,ho,hb⟩:=h.loc (hτ _ _ hk) (λ_ _ e=>by cases e);rw[hl] at hl';cases hl';cases hb with
    | rows _ _ _ hr=>simp[fJ] at hr
    | map _ _ ents h1 h2 =>
     have hex:∀ i (hi:i<ts.length),∃ e,ents[i]? = some e/\e.key=ts[i].1/\e.born=i/\cS w own0 ts[i].2 e.val:=by
      intro i hi;obtain ⟨e,a1,a2,a3,a4⟩:=h2 i (by omega);have g3:=g2 i (by omega) hi;simp only[aa] at g3;obtain ⟨t,g4,g5⟩:=g3;refine ⟨e,a1,?_,a3,?_⟩
      ·rw[<-g5];exact a2
      ·rw[<-g5];exact ih a4 g4
     refine .mp ts l.bV ents (λi=>ents.getD i ⟨undef,undef,0⟩) (hdis _ _ _ hk hl hL) ((h.new k l hl).2 hL).1 (by rw[g1];exact ho) (by omega) (λi hi=>?_) (λi hi=>?_)
     ·obtain ⟨e,a1,a2,a3,_⟩:=hex i hi;rw[show ents.getD i ⟨undef,undef,0⟩=e by rw[Array.getD_eq_getD_getElem?,a1];rfl];exact ⟨a1,a2,a3⟩
     ·obtain ⟨e,a1,_,_,a4⟩:=hex i hi;rw[show ents.getD i ⟨undef,undef,0⟩=e by rw[Array.getD_eq_getD_getElem?,a1];rfl];exact a4
   ·cases hf
  | it k l hl=>simp[j1] at hf
  | tM d v hd=>simp[j1] at hf
  | EB d=>simp[j1] at hf
  | any v=>simp[j1] at hf
def UF (h:Inv cx ρ σ n w) (m:Nat) {d:D} {t:T} {v:Value} (hd:Rd w (bY cx ρ σ) ρ d v) (hf:j1 σ m d=some t):cS w cx.own t v :=
 UE h (λ_ h=>.inl h) (λ_ _ h=>h) (λ_ _ _ _ hl hL=>h.BK8 hl hL) m hd hf
def AC8 (ih:∀ {d:D} {t:T} {v:Value},Rd w (bY cx ρ σ) ρ d v->j1 σ m d=some t->cS w cx.own t v) {vs:Array Value} (h:dO (Rd w (bY cx ρ σ) ρ) ds vs)
  (hf:ds.mapM (j1 σ m)=some ts):dO (cS w cx.own) ts vs:=HJ ih h hf
end
structure aT (P:Program) (f:FuncId) (g:List T->Option T):Prop where
 entry:∃ fn,P.funcs[f]? = some fn/\(fn.name == "runtime.NumGoroutine")=false/\fn.body.isNone=false
 calls:∀ (w:World) (own:Nat->Prop) (args:List T) (vs:Array Value) (r:T),Good P w->(∀ b,own b->b<w.heap.size)->dO (cS w own) args vs->g args=some r ->
  Calls P f vs w (λe w'=>∃ v,e = .returned v/\cS w' own r v/\Below w.heap.size w w')
structure LA (P:Program) (f:FuncId) (c:Nat) (g:List T->Option T):Prop where
 entry:∃ fn,P.funcs[f]? = some fn/\(fn.name == "runtime.NumGoroutine")=false/\fn.body.isNone=false
 calls:∀ (w:World) (own:Nat->Prop) (args:List T) (vs:Array Value) (cs:List T),Good P w->(∀ b,own b->b<w.heap.size)->dO (cS w own) args vs->g args=some (.agg cs) ->
  Calls P f vs w (λe w'=>∃ vc:Array Value,e = .returned (.agg vc)/\Below w.heap.size w w'/\vc.size=cs.length/\∀ fl r0 rows,cs[c]? = some (.sl fl (r0::rows)) ->
   ∃ bV sz C ty cc,(∀ i (h:i<cs.length),i≠c->cS w' (λb=>own b\/b=bV) cs[i] (vc.getD i undef))/\vc.getD c undef = .slice (some ⟨bV,0,none⟩) (r0::rows).length C/\C<=maxLen/\w.heap.size<=bV /\
    w'.heap[bV]? = some (.cells cc ty (0,0))/\gC w' (λb=>own b\/b=bV) (λ_=>none) ⟨bV,sz,C,ty,(r0::rows).length⟩ (.cells cc ty (0,0)) (.arr false sz (r0::rows)))
structure gL (P:Program) (f:FuncId) (g:List T->Option (List (List T))):Prop where
 entry:∃ fn,P.funcs[f]? = some fn/\(fn.name == "runtime.NumGoroutine")=false/\fn.body.isNone=false
 calls:∀ (w:World) (own:Nat->Prop) (args:List T) (vs:Array Value) (rows:List (List T)),Good P w->(∀ b,own b->b<w.heap.size)->dO (cS w own) args vs->g args=some rows ->
  Calls P f vs w (λe w'=>∃ v,e = .returned v/\Below w.heap.size w w'/\(rows=[]->cS w' own (.sl false []) v) /\
   (rows≠[]->∃ bV sz C ty c,v = .slice (some ⟨bV,0,none⟩) rows.length C/\C<=maxLen/\w.heap.size<=bV/\w'.heap[bV]? = some (.cells c ty (0,0)) /\
    gC w' (λb=>own b\/b=bV) (λ_=>none) ⟨bV,sz,C,ty,rows.length⟩ (.cells c ty (0,0)) (.arr false sz rows)))
structure BQ9 (P:Program) (f:FuncId) (g:List T->Option (List (List T))):Prop where
 entry:∃ fn,P.funcs[f]? = some fn/\(fn.name == "runtime.NumGoroutine")=false/\fn.body.isNone=false
 calls:∀ (w:World) (own:Nat->Prop) (args:List T) (vs:Array Value) (rows:List (List T)),Good P w->(∀ b,own b->b<w.heap.size)->dO (cS w own) args vs->g args=some rows ->
  Calls P f vs w (λe w'=>∃ v,e = .returned v/\Below w.heap.size w w'/\(rows=[]->cS w' own (.sl true []) v) /\
   (rows≠[]->∃ bV sz C ty c,v = .slice (some ⟨bV,0,none⟩) rows.length C/\C<=maxLen/\w.heap.size<=bV/\w'.heap[bV]? = some (.cells c ty (0,0)) /\
    gC w' (λb=>own b\/b=bV) (λ_=>none) ⟨bV,sz,C,ty,rows.length⟩ (.cells c ty (0,0)) (.arr false sz rows)))
structure fI (P:Program) (f:FuncId) (g:List D->(Nat->Option bL)->Nat->Option (D×(Nat->Option bL)×Nat)):Prop where
 entry:∃ fn,P.funcs[f]? = some fn/\(fn.name == "runtime.NumGoroutine")=false/\fn.body.isNone=false
 calls:∀ (cx:Cx) (ρ:Nat->Option Loc) (σ:Nat->Option bL) (n:Nat) (w:World) (args:List D) (vs:Array Value) (d:D) (σ':Nat->Option bL) (n':Nat),cx.P=P->Good P w->Inv cx ρ σ n w->dO (Rd w (bY cx ρ σ) ρ) args vs ->
  g args σ n=some (d,σ',n')->Calls P f vs w (λe w'=>∃ v ρ',e = .returned v/\Inv cx ρ' σ' n' w'/\bZ cx ρ ρ' σ σ' w w'/\Rd w' (bY cx ρ' σ') ρ' d v)
structure xE (P:Program) (f:FuncId) (g:List D->(Nat->Option bL)->Nat->Option T):Prop where
 entry:∃ fn,P.funcs[f]? = some fn/\(fn.name == "runtime.NumGoroutine")=false/\fn.body.isNone=false
 calls:∀ (cx:Cx) (ρ:Nat->Option Loc) (σ:Nat->Option bL) (n:Nat) (w:World) (args:List D) (vs:Array Value) (r:T),cx.P=P->Good P w->Inv cx ρ σ n w->dO (Rd w (bY cx ρ σ) ρ) args vs ->
  g args σ n=some r->Calls P f vs w (λe w'=>∃ v,e = .returned v/\cS w' (bY cx ρ σ) r v/\Below w.heap.size w w')
structure j9 (P:Program) (f:FuncId) (g:List T->Option T):Prop where
 entry:∃ fn,P.funcs[f]? = some fn/\(fn.name == "runtime.NumGoroutine")=false/\fn.body.isNone=false
 calls:∀ (w:World) (own:Nat->Prop) (args:List T) (vs:Array Value) (r:T),Good P w->(∀ b,own b->b<w.heap.size)->dO (cS w own) args vs->g args=some r ->
  Calls P f vs w (λe w'=>∃ v,e = .returned v/\cS w' (λb=>b<w.heap.size) r v/\Below w.heap.size w w')
def bQ (es:List (iII×Int)):List (Value×T):=es.map λe=>(.string e.1,.v (.int .i64 e.2))
def uO (g:List T->Option (List (iII×Int))) (args:List T):Option T:=(g args).map λes=>.mp (bQ es)
def BKP (P:Program) (f:FuncId) (g:List T->Option T):Prop :=
 ∀ (w:World) (own:Nat->Prop) (args:List T) (vs:Array Value) (r:T),dO (cS w own) args vs->g args=some r->∃ v,(callFunc f vs).run P w = .ok (.value v) w/\cS w own r v
inductive Fn where
 | pure (g:List T->Option T)
 | fresh (g:List T->Option (List (List T)))
 | heap (g:List D->(Nat->Option bL)->Nat->Option (D×(Nat->Option bL)×Nat))
 | read (g:List D->(Nat->Option bL)->Nat->Option T)
 | mark
 | both (g:List D->(Nat->Option bL)->Nat->Option T) (h:List D->(Nat->Option bL)->Nat->Option (D×(Nat->Option bL)×Nat))
 | new (g:List T->Option T)
 | AZ1 (g:List T->Option (List (iII×Int)))
 | ext (g:List T->Option T)
 | grow (z:Nat) (g:List (List T)->List T->Option (List (List T)))
 | dup (z b:Nat)
 | part (c:Nat) (g:List T->Option T)
def oH (z:Nat) (g:List (List T)->List T->Option (List (List T))):List D->(Nat->Option bL)->Nat->Option (D×(Nat->Option bL)×Nat):=λargs σ n=>match args with
 | .own k::rest=>match σ k with
  | some (.arr false z' rows)=>match decide (z'=z),qU rest with
   | true,some ts=>(g rows ts).map λrows'=>(.own n,cJ (cJ σ k none) n (some (.arr false z rows')),n+1)
   | _,_=>none
  | _=>none
 | _=>none
def HK (z b:Nat):List D->(Nat->Option bL)->Nat->Option (D×(Nat->Option bL)×Nat):=λargs σ n=>match args with
 | [.own k]=>match σ k with
  | some (.arr _ z' rows)=>match decide (z'=z)&&decide (rows.length*b<=140737488355328)&&decide (rows.length<=140737488355328) with
   | true=>some (.own n,cJ σ n (some (.arr false z rows)),n+1)
   | false=>none
  | _=>none
 | [.p t]=>match gP t with
  | some (_,rows)=>match (rows.all λr=>decide (r.length=z))&&decide (rows.length*b<=140737488355328)&&decide (rows.length<=140737488355328) with
   | true=>some (.own n,cJ σ n (some (.arr false z rows)),n+1)
   | false=>none
  | none=>none
 | _=>none
def T.canon:Nat->T->T
 | _,.sl _ rows=>.sl false rows
 | _,.v (.slice none 0 0)=>.sl false []
 | _,.ne _=>.sl false []
 | n+1,.agg cs=>.agg (cs.map (T.canon n))
 | n+1,.cB cs=>.cB (cs.map (T.canon n))
 | _,t=>t
def BL5 (P:Program) (f:FuncId):Fn->Prop
 | .pure g=>aT P f g
 | .fresh g=>gL P f g
 | .heap g=>fI P f g
 | .read g=>xE P f g
 | .mark=>True
 | .both g h=>xE P f g/\fI P f h
 | .new g=>j9 P f g
 | .AZ1 g=>j9 P f (uO g)
 | .ext g=>BKP P f g
 | .grow z g=>fI P f (oH z g)
 | .dup z y=>fI P f (HK z y)
 | .part c g=>LA P f c g
def U0:Fn->Option (List D->(Nat->Option bL)->Nat->Option (D×(Nat->Option bL)×Nat))
 | .heap g=>some g
 | .grow z g=>some (oH z g)
 | .dup z y=>some (HK z y)
 | _=>none
variable {P:Program}
def BA3 {f:FuncId} {x:Fn} {g} (h:BL5 P f x) (hx:U0 x=some g):fI P f g:=by
 cases x<;>cases hx<;>exact h
def Env:=FuncId->Option Fn
def Env.of:List (FuncId×Fn)->Env
 | [],_=>none
 | (k,x)::r,f=>if k=f then some x else Env.of r f
def Env.marked (E:Env) (t:TypeId):Bool:=match E (1000000000+t) with
 | some .mark=>true
 | _=>false
def Env.still (E:Env) (t:TypeId):Bool:=match E (4000000000+t) with
 | some .mark=>true
 | _=>false
def Env.BBI (E:Env) (f:FuncId):Bool:=match E f with
 | some (.pure _)=>true
 | some (.read _)=>true
 | some (.new _)=>true
 | some (.AZ1 _)=>true
 | some (.ext _)=>true
 | _=>false
def bB (P:Program) (E:Env):Prop:=∀ f x,E f=some x->BL5 P f x
def Env.view (E:Env) (draw:Bool):Env:=λf=>match E f with
 | some (.both g h)=>match draw with
  | true=>some (.read g)
  | false=>some (.heap h)
 | x=>x
variable {E:Env}
def bB.view (h:bB P E) (draw:Bool):bB P (E.view draw):=by
 intro f x hx;unfold Env.view at hx;split at hx
 ·rename_i g k he;have hk:xE P f g/\fI P f k:=h f _ he;split at hx
  ·cases hx;exact hk.1
  ·cases hx;exact hk.2
 ·exact h f x hx
def bB.nil (P:Program):bB P (Env.of []):=λf x h=>by simp[Env.of] at h
def bB.cons {l:List (FuncId×Fn)} {f:FuncId} {x:Fn} (h:BL5 P f x) (hE:bB P (Env.of l)):bB P (Env.of ((f,x)::l)):=by
 intro f' x' hx;simp only[Env.of] at hx;split at hx
 ·simp_all
 ·exact hE f' x' hx
def T.zG:Nat->T->Bool
 | _,.v _=>true
 | n+1,.cB ts=>ts.all (T.zG n)
 | n+1,.agg ts=>ts.all (T.zG n)
 | _,_=>false
def T.flat (t:T):Bool:=T.zG 3 t
variable {own':Nat->Prop}
def cS.BI4 {w:World} {own:Nat->Prop}:∀ (n:Nat) {t:T} {v:Value},cS w own t v->T.zG n t=true->cS w own' t v:=by
 intro n
 induction n with
 | zero =>
  intro t v h hf;cases h with
  | v=>exact .v _
  | _=>simp[T.zG] at hf
 | succ n ih =>
  intro t v h hf;cases h with
  | v=>exact .v _
  | cB cs vs h1 h2 =>
   exact .cB cs vs h1 λi hi=>ih (h2 i hi) (List.all_eq_true.1 hf _ (ak hi))
  | agg cs vs h1 h2 =>
   exact .agg cs vs h1 λi hi=>ih (h2 i hi) (List.all_eq_true.1 hf _ (ak hi))
  | _=>simp[T.zG] at hf
def cS.VL {w:World} {own:Nat->Prop} {t:T} {v:Value} (h:cS w own t v) (hf:t.flat=true):cS w own' t v:=cS.BI4 3 h hf
def lC (c:D):Option (FuncId×List D×List D) :=
 match c with
 | .p (.fn f a b)=>some (f,a.map .p,b.map .p)
 | .fn f a b=>some (f,a,b)
 | _=>none
def rY (E:Env) (σ:Nat->Option bL) (n:Nat) (c:D) (args:List D):Option D :=
 match lC c with
 | some (f,a,b) =>
  match E f with
  | some (.pure g) =>
   match qU (a++args++b) with
   | some ts=>(g ts).map .p
   | none =>
    match (a++args++b).mapM (j1 σ 4) with
    | some ts=>match g ts with
     | some r=>if r.flat then some (.p r) else none
     | none=>none
    | none=>none
  | some (.read g)=>(g (a++args++b) σ n).map .p
  | some (.new g)=>match (a++args++b).mapM (j1 σ 4) with
   | some ts=>(g ts).map .p
   | none=>none
  | some (.AZ1 g)=>match (a++args++b).mapM (j1 σ 4) with
   | some ts=>(g ts).map λes=>.p (.mp (bQ es))
   | none=>none
  | some (.ext g)=>match qU (a++args++b) with
   | some ts=>(g ts).map .p
   | none=>none
  | _=>none
 | none=>none
section
variable {cx : Cx} {ρ : Nat -> Option Loc} {σ : Nat -> Option bL} {n : Nat} {w : World}
def LF {own:Nat->Prop} {c:D} {x:Value} {f:FuncId} {a b:List D} (hc:Rd w own ρ c x) (h:lC c=some (f,a,b)):∃ va vb,x = .func (.func f) va vb/\dO (Rd w own ρ) a va/\dO (Rd w own ρ) b vb:=by
 unfold lC at h;split at h
 ·cases h;cases hc with
  | p _ _ hc =>
  cases hc with
  | fn _ _ _ va vb h1 h2 h3 h4=>exact ⟨va,vb,rfl,dO.map (R:=cS w own) _ ⟨h1,h3⟩ (λ_ _ h=>.p _ _ h),dO.map (R:=cS w own) _ ⟨h2,h4⟩ (λ_ _ h=>.p _ _ h)⟩
 ·cases h;cases hc with
  | fn _ _ _ va vb h1 h2 h3 h4=>exact ⟨va,vb,rfl,⟨h1,h3⟩,⟨h2,h4⟩⟩
 ·cases h
variable {ds:List D}{ts:List T}
def xF {own:Nat->Prop} {vs:Array Value} (h:dO (Rd w own ρ) ds vs) (ht:qU ds=some ts):dO (cS w own) ts vs:=by
 have e:=mT ht;subst e;refine ⟨by simpa using h.1,λi hi=>?_⟩;have:=h.2 i (by simpa using hi);simp only[List.getElem_map] at this;cases this with
 | p _ _ h=>exact h
def AIF (hE:bB cx.P E) (hI:Inv cx ρ σ n w) (hG:Good cx.P w) {c:D} {x:Value} {args:List D} {vargs:Array Value} {r:D} (hc:Rd w (bY cx ρ σ) ρ c x) (ha:dO (Rd w (bY cx ρ σ) ρ) args vargs)
  (h:rY E σ n c args=some r):(∃ f as,(do let d <-Deferred.ofValue x vargs;invoke d.target d.args:Sem Next).run cx.P w = .ok (.enter f as) w /\
   Calls cx.P f as w (λe w'=>∃ v,e = .returned v/\Rd w' (bY cx ρ σ) ρ r v/\Below w.heap.size w w')) \/
   ∃ v,(do let d <-Deferred.ofValue x vargs;invoke d.target d.args:Sem Next).run cx.P w = .ok (.value v) w/\Rd w (bY cx ρ σ) ρ r v:=by
 have newC:∀ {f:FuncId} {g:List T->Option T} {ds:List D} {va vb:Array Value} {ts:List T} {r':T},j9 cx.P f g->dO (Rd w (bY cx ρ σ) ρ) ds (va++vargs++vb)->ds.mapM (j1 σ 4)=some ts->g ts=some r' ->
   ∃ f' as,(do let d <-Deferred.ofValue (.func (.func f) va vb) vargs;invoke d.target d.args:Sem Next).run cx.P w = .ok (.enter f' as) w/\Calls cx.P f' as w (λe w'=>∃ v,e = .returned v/\Rd w' (bY cx ρ σ) ρ (.p r') v/\Below w.heap.size w w'):=by
  intro f g ds va vb ts r' hf hargs hts hr;obtain ⟨fn,e1,e2,e3⟩:=hf.entry;refine ⟨f,va++vargs++vb,?_,?_⟩
  ·have e2':¬ fn.name = "runtime.NumGoroutine" := by simpa using e2
   have e3':¬ fn.body=none:=by intro h;simp[h] at e3
   simp[Deferred.ofValue,invoke,callFunc,e1,e2',e3']
  ·have hts':=AC8 (λhd ht=>UF hI 4 hd ht) hargs hts;refine (hf.calls w cx.own ts _ r' hG (λb hb=>by have:=hI.nC b hb;have:=hI.below.size;omega) hts' hr).mono ?_;rintro e w' ⟨v,rfl,h3,h4⟩;exact ⟨v,rfl,.p _ _ (h3.less λb hb=>bY.lt hI hb),h4⟩
 unfold rY at h;split at h
 ·rename_i f a b hcal;obtain ⟨va,vb,rfl,h1,h2⟩:=LF hc hcal;split at h
  ·rename_i g hg;have hf:aT cx.P f g:=hE f _ hg;obtain ⟨fn,e1,e2,e3⟩:=hf.entry;have hargs:dO (Rd w (bY cx ρ σ) ρ) (a++args++b) (va++vargs++vb):=(h1.append ha).append h2;refine .inl ⟨f,va++vargs++vb,?_,?_⟩
   ·have e2':¬ fn.name = "runtime.NumGoroutine" := by simpa using e2
    have e3':¬ fn.body=none:=by intro h;simp[h] at e3
    simp[Deferred.ofValue,invoke,callFunc,e1,e2',e3']
   ·split at h
    ·rename_i ts hts;simp only[aa] at h;obtain ⟨r',hr,rfl⟩:=h;refine (hf.calls w (bY cx ρ σ) ts _ r' hG (λb hb=>bY.lt hI hb) (xF hargs hts) hr).mono ?_;rintro e w' ⟨v,rfl,h3,h4⟩;exact ⟨v,rfl,.p _ _ h3,h4⟩
    ·split at h
     ·rename_i ts hts;split at h
      ·rename_i r' hr;split at h
       ·rename_i hfl;cases h;have hts':=AC8 (λhd ht=>UF hI 4 hd ht) hargs hts;refine (hf.calls w cx.own ts _ r' hG (λb hb=>by have:=hI.nC b hb;have:=hI.below.size;omega) hts' hr).mono ?_;rintro e w' ⟨v,rfl,h3,h4⟩;exact ⟨v,rfl,.p _ _ (h3.VL hfl),h4⟩
       ·cases h
      ·cases h
     ·cases h
  ·rename_i g hg;have hf:xE cx.P f g:=hE f _ hg;obtain ⟨fn,e1,e2,e3⟩:=hf.entry;have hargs:dO (Rd w (bY cx ρ σ) ρ) (a++args++b) (va++vargs++vb):=(h1.append ha).append h2;refine .inl ⟨f,va++vargs++vb,?_,?_⟩
   ·have e2':¬ fn.name = "runtime.NumGoroutine" := by simpa using e2
    have e3':¬ fn.body=none:=by intro h;simp[h] at e3
    simp[Deferred.ofValue,invoke,callFunc,e1,e2',e3']
   ·simp only[aa] at h;obtain ⟨r',hr,rfl⟩:=h;refine (hf.calls cx ρ σ n w _ _ r' rfl hG hI hargs hr).mono ?_;rintro e w' ⟨v,rfl,h3,h4⟩;exact ⟨v,rfl,.p _ _ h3,h4⟩
  ·rename_i g hg;split at h
   ·rename_i ts hts;simp only[aa] at h;obtain ⟨r',hr,rfl⟩:=h;exact .inl (newC (hE f _ hg) ((h1.append ha).append h2) hts hr)
   ·cases h
  ·rename_i g hg;split at h
   ·rename_i ts hts;simp only[aa] at h;obtain ⟨es,hr,rfl⟩:=h;exact .inl (newC (g:=uO g) (hE f _ hg) ((h1.append ha).append h2) hts (by simp[uO,hr]))
   ·cases h
  ·rename_i g hg;have hf:BKP cx.P f g:=hE f _ hg;have hargs:dO (Rd w (bY cx ρ σ) ρ) (a++args++b) (va++vargs++vb):=(h1.append ha).append h2;split at h
   ·rename_i ts hts;simp only[aa] at h;obtain ⟨r',hr,rfl⟩:=h;obtain ⟨v,h3,h4⟩:=hf w _ ts _ r' (xF hargs hts) hr;refine .inr ⟨v,?_,.p _ _ h4⟩;simpa [Deferred.ofValue,invoke] using h3
   ·cases h
  ·cases h
 ·cases h
end
end Go.Pv
