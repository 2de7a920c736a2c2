/-
  The pure evaluator, part g: frozen data, calls of functions that are known, and the operations that leave the boxes alone, all together.
-/
import Derived.Test.YtcnfagefgkblkaaGreatDoorVrwf
set_option linter.defProp false
set_option linter.unusedSimpArgs false
namespace Go.Pv
open Go Go.RowKit
def iG (σ:Nat->Option bE):Nat->D->Option T
 | _,.p t=>some t
 | n+1,.agg cs=>(cs.mapM (iG σ n)).map .agg
 | n+1,.bX cs=>(cs.mapM (iG σ n)).map .bX
 | n+1,.fn f a b=>match a.mapM (iG σ n),b.mapM (iG σ n) with
  | some a,some b=>some (.fn f a b)
  | _,_=>none
 | n+1,.ptr k i j =>
  match (σ k).bind dZ with
  | some rs=>match rs[i]? with
   | some r=>if j<r.length then ((r.drop j).mapM (iG σ n)).map .ref else none
   | none=>none
  | _=>none
 | n+1,.own k =>
  match σ k with
  | some (.arr _ _ rows)=>some (.sl false rows)
  | some (.rows _ rs)=>(rs.mapM λ(r:List D)=>r.mapM (iG σ n)).map (.sl false)
  | _=>none
 | n+1,.bs k off len =>
  match σ k with
  | some (.arr _ _ rows)=>if off+len<=rows.length then some (.sl false ((rows.drop off).take len)) else none
  | some (.rows _ rs)=>if off+len<=rs.length then (((rs.drop off).take len).mapM λ(r:List D)=>r.mapM (iG σ n)).map (.sl false) else none
  | _=>none
 | n+1,.map k =>
  match σ k with
  | some (.map _ es)=>(es.mapM λ(e:Value×D)=>(iG σ n e.2).map λt=>(e.1,t)).map .mp
  | _=>none
 | _,_=>none
section
variable {cx : Cx} {ρ : Nat -> Option Loc} {σ : Nat -> Option bE} {n : Nat} {w : World}
def Inv.A3C (h:Inv cx ρ σ n w) {k:Nat} {l:Loc} (hl:ρ k=some l) (hL:0<l.L+l.C):¬ cx.own l.bJ:=((h.new k l hl).2 hL).2
variable {own':Nat->Prop}
def cO.less {own:Nat->Prop} (ho:∀ b,own' b->own b) {t:T} {v:Value} (h:cO w own t v):cO w own' t v :=
 h.mono (λ_ _ _=>rfl) (ak _) (λb _ hn hc=>hn (ho b hc))
variable {own0:Nat->Prop}{τ:Nat->Option bE}{m:Nat}{ds:List D}
def FA {own:Nat->Prop} (ih:∀ {d:D} {t:T} {v:Value},Rd w own ρ d v->iG τ m d=some t->cO w own0 t v) {ts:List T} {vs:Array Value} (h:dF (Rd w own ρ) ds vs)
  (hf:ds.mapM (iG τ m)=some ts):dF (cO w own0) ts vs:=by
 obtain ⟨h1,h2⟩:=mapM_some_length hf;refine ⟨by rw[h1];exact h.1,λi hi=>?_⟩;exact ih (h.2 i (by omega)) (h2 i (by omega) hi)
def BO7 (τ:Nat->Option bE) (m:Nat) (t:T):iG τ m (.p t)=some t:=by cases m<;>rfl
def PO (τ:Nat->Option bE) (m:Nat):∀ (r:List T),(r.map D.p).mapM (iG τ m)=some r
 | []=>rfl
 | t::r=>by simp only[List.map_cons,List.mapM_cons,BO7,PO τ m r];rfl
def ID (τ:Nat->Option bE) (m:Nat):∀ (rows:List (List T)),(aY rows).mapM (λ(r:List D)=>r.mapM (iG τ m))=some rows
 | []=>rfl
 | r::rows=>by
  have:=ID τ m rows;simp only[aY,List.map_cons,List.mapM_cons] at this ⊢;simp only[PO,this];rfl
def KP (h:Inv cx ρ σ n w) {k:Nat} {rs:List (List D)} (hk:(σ k).bind dZ=some rs) {l:Loc} (hl:ρ k=some l) (hL:0<l.L+l.C) (_:l.C<=maxLen) (hdis:¬ own0 l.bJ)
  (ih:∀ {d:D} {t:T} {v:Value},Rd w (Own cx ρ σ) ρ d v->iG τ m d=some t->cO w own0 t v) {off len:Nat} (hle:off+len<=rs.length) {rows:List (List T)} (hrows:((rs.drop off).take len).mapM (λ(r:List D)=>r.mapM (iG τ m))=some rows) (hpos:0<len) :
  cO w own0 (.sl false rows) (.slice (some ⟨l.bJ,off*l.sz,none⟩) len (l.C-off)):=by
 obtain ⟨g1,g2⟩:=mapM_some_length hrows;obtain ⟨l',c,hl',_,_,hb⟩:=h.rows hk (by intro e;subst e;simp at hle;omega);rw[hl] at hl';cases hl';have hlen:rows.length=len:=by rw[g1];simp;omega
 have hpos:0<rows.length:=by omega
 have hrow:∀ i (hi:i<rows.length),∃ (h2:off+i<rs.length),rs[off+i].mapM (iG τ m)=some rows[i]:=by
  intro i hi;have:=g2 i (by omega) hi;refine ⟨by omega,?_⟩;simpa using this
 have hw:∀ i (hi:i<rows.length),rows[i].length=l.sz:=by
  intro i hi;obtain ⟨h2,h3⟩:=hrow i hi;rw[(mapM_some_length h3).1];exact hb.width _ (aj h2)
 have hcell:∀ i j (hi:i<rows.length) (hj:j<l.sz),∃ u,w.cell? ⟨l.bJ,off*l.sz+i*l.sz+j,none⟩=some u/\u.oneCell'=true/\∀ (hj:j<rows[i].length),cO w own0 rows[i][j] u:=by
  intro i j hi hj;obtain ⟨h2,h3⟩:=hrow i hi;obtain ⟨e1,e2⟩:=mapM_some_length h3;have hwid:=hb.width _ (aj h2);obtain ⟨u,u1,u2,u3⟩:=h.cellOf hk (i:=off+i) (r:=rs[off+i]) (by simp[h2]) (j:=j) (by omega) hl;refine ⟨u,by rw[<-Nat.add_mul];exact u1,u3,λhj'=>ih u2 (e2 j (by omega) hj')⟩
 have hex:∃ f:Nat->Nat->Value,∀ i j (hi:i<rows.length) (hj:j<l.sz),w.cell? ⟨l.bJ,off*l.sz+i*l.sz+j,none⟩=some (f i j)/\(f i j).oneCell'=true/\∀ (hj:j<rows[i].length),cO w own0 rows[i][j] (f i j):=by
  refine ⟨λi j=>if hij:i<rows.length/\j<l.sz then Classical.choose (hcell i j hij.1 hij.2) else undef,λi j hi hj=>?_⟩;have hs:=Classical.choose_spec (hcell i j hi hj);simp only[dif_pos (show i<rows.length/\j<l.sz from ⟨hi,hj⟩)];exact hs
 obtain ⟨f,hf⟩:=hex;rw[<-hlen];have hsm:=hb.small;have hCl:=hb.len;exact .sl false rows l.sz l.bJ (off*l.sz) (l.C-off) f (by omega) (by omega) (by simp) hdis ((h.new k l hl).2 hL).1 (λr hr=>by
  obtain ⟨i,hi,rfl⟩:=List.mem_iff_getElem.1 hr;exact hw i hi) hb.pos (λi j hi hj=>⟨(hf i j hi hj).1,(hf i j hi hj).2.1⟩) (λi j hi hj=>(hf i j hi (by rw[<-hw i hi];exact hj)).2.2 hj)
def DS (h:Inv cx ρ σ n w) (h0:∀ b,own0 b->Own cx ρ σ b) (hτ:∀ k x,τ k=some x->σ k=some x) (hd:∀ k x l,τ k=some x->ρ k=some l->0<l.L+l.C->¬ own0 l.bJ) :
  ∀ (m:Nat) {d:D} {t:T} {v:Value},Rd w (Own cx ρ σ) ρ d v->iG τ m d=some t->cO w own0 t v:=by
 have hdis:=hd;clear hd;intro m
 induction m with
 | zero =>
  intro d t v hd hf;cases d<;>simp[iG] at hf;subst hf;cases hd with
  | p _ _ hd=>exact hd.less h0
 | succ m ih =>
  intro d t v hd hf;cases hd with
  | p t' _ hd=>simp[iG] at hf;subst hf;exact hd.less h0
  | agg cs vs h1 h2 =>
   simp only[iG,aa] at hf;obtain ⟨ts,hts,rfl⟩:=hf;have:=FA ih ⟨h1,h2⟩ hts;exact .agg _ _ this.1 this.2
  | bX cs vs h1 h2 =>
   simp only[iG,aa] at hf;obtain ⟨ts,hts,rfl⟩:=hf;have:=FA ih ⟨h1,h2⟩ hts;exact .bX _ _ this.1 this.2
  | fn f fs cs va vb h1 h2 h3 h4 =>
   simp only[iG] at hf;split at hf
   ·rename_i a b ha hb;cases hf;have k1:=FA ih ⟨h1,h3⟩ ha;have k2:=FA ih ⟨h2,h4⟩ hb;exact .fn _ _ _ _ _ k1.1 k2.1 k1.2 k2.2
   ·cases hf
  | ptr k i j l hl =>
   simp only[iG] at hf;split at hf
   ·rename_i rs hk;have hk':(σ k).bind dZ=some rs:=by
     simp only[Option.bind_eq_some_iff] at hk ⊢;obtain ⟨x,hx,hr⟩:=hk;exact ⟨x,hτ _ _ hx,hr⟩
    obtain ⟨x0,hx0,_⟩:=Option.bind_eq_some_iff.1 hk;split at hf
    ·rename_i r hr;split at hf
     ·rename_i hj;simp only[aa] at hf;obtain ⟨ts,hts,rfl⟩:=hf;obtain ⟨g1,g2⟩:=mapM_some_length hts;have hcell:=λq hq=>h.cellOf hk' hr (j:=j+q) hq hl;have hL:0<l.L+l.C:=by
       obtain ⟨l',c,hl',hL,_⟩:=h.rows hk' (lG hr);rw[hl] at hl';cases hl';exact hL
      have hex:∃ f:Nat->Value,∀ q,q<ts.length->w.cell? ⟨l.bJ,(i*l.sz+j)+q,none⟩=some (f q)/\(f q).oneCell'=true/\∀ (hq:q<ts.length),cO w own0 ts[q] (f q):=by
       refine ⟨λq=>if hq:j+q<r.length then Classical.choose (hcell q hq) else undef,λq hq=>?_⟩;have hq':j+q<r.length:=by rw[g1] at hq;simp at hq;omega
       have hs:=Classical.choose_spec (hcell q hq');simp only[dif_pos hq'];refine ⟨by rw[Nat.add_assoc];exact hs.1,hs.2.2,λ_=>ih hs.2.1 ?_⟩;have:=g2 q (by omega) hq;simpa using this
      obtain ⟨f,hf⟩:=hex;exact .ref ts l.bJ _ f (hdis _ _ _ hx0 hl hL) ((h.new k l hl).2 hL).1 (λq hq=>⟨(hf q hq).1,(hf q hq).2.1⟩) (λq hq=>(hf q hq).2.2 hq)
     ·cases hf
    ·cases hf
   ·cases hf
  | own k l hl h0 hc1 hc2 =>
   have key:∃ (x:bE) (rs:List (List D)) (rows:List (List T)),τ k=some x/\dZ x=some rs/\rs.mapM (λ(r:List D)=>r.mapM (iG τ m))=some rows/\t = .sl false rows:=by
    simp only[iG] at hf;split at hf
    ·rename_i ro z rows hk;cases hf;exact ⟨_,_,rows,hk,rfl,ID τ m rows,rfl⟩
    ·rename_i ro rs hk;simp only[aa] at hf;obtain ⟨rows,h1,rfl⟩:=hf;exact ⟨_,rs,rows,hk,rfl,h1,rfl⟩
    ·cases hf
   obtain ⟨x,rs,rows,hk,hr,hrows,rfl⟩:=key;have hk':(σ k).bind dZ=some rs:=by rw[hτ _ _ hk];exact hr
   have hL:=h.lH hk' hl;by_cases hz0:l.L=0
   ·have hlen:=(mapM_some_length hrows).1;have:rows=[]:=List.eq_nil_of_length_eq_zero (by omega);subst this;rw[hz0];exact .cS false _ _ (by simp) (by simp)
   have:=KP h hk' hl h0 hc2 (hdis _ _ _ hk hl h0) ih (off:=0) (len:=rs.length) (by omega) (by simpa using hrows) (by omega);rw[hL] at this;simpa using this
  | dC k l a hl h0 =>
   have hrs:∀ ro z rows,τ k=some (.arr ro z rows)->rows=[]:=by
    intro ro z rows hk;have:=h.lH (k:=k) (rs:=aY rows) (by rw[hτ _ _ hk];rfl) hl;rw[show l.L=0 by omega] at this;simpa using this
   simp only[iG] at hf;split at hf
   ·rename_i ro z rows hk;cases hf;rw[hrs ro z rows hk];exact .cS false a 0 (by simp) (by simp)
   ·rename_i ro rs hk;simp only[aa] at hf;obtain ⟨rows,h1,rfl⟩:=hf;have:=h.lH (k:=k) (rs:=rs) (by rw[hτ _ _ hk];rfl) hl;rw[show l.L=0 by omega] at this;have h2:=(mapM_some_length h1).1;rw[this] at h2;rw[List.length_eq_zero_iff.1 h2];exact .cS false a 0 (by simp) (by simp)
   ·cases hf
  | bs k off len l hl hc1 hc2 =>
   have key:∃ (x:bE) (rs:List (List D)) (rows:List (List T)),τ k=some x/\dZ x=some rs/\off+len<=rs.length/\((rs.drop off).take len).mapM (λ(r:List D)=>r.mapM (iG τ m))=some rows/\t = .sl false rows:=by
    simp only[iG] at hf;split at hf
    ·rename_i ro z rows hk;split at hf
     ·rename_i hle;cases hf;refine ⟨_,_,_,hk,rfl,by simpa using hle,?_,rfl⟩;have:=ID τ m ((rows.drop off).take len);simpa [aY,List.map_drop,List.map_take] using this
     ·cases hf
    ·rename_i ro rs hk;split at hf
     ·rename_i hle;simp only[aa] at hf;obtain ⟨rows,h1,rfl⟩:=hf;exact ⟨_,rs,rows,hk,rfl,hle,h1,rfl⟩
     ·cases hf
    ·cases hf
   obtain ⟨x,rs,rows,hk,hr,hle,hrows,rfl⟩:=key;have hk':(σ k).bind dZ=some rs:=by rw[hτ _ _ hk];exact hr
   have hlen:rows.length=len:=by rw[(mapM_some_length hrows).1];simp;omega
   by_cases he:rows=[]
   ·subst he;simp at hlen;subst hlen;exact .cS false _ _ (by simp) (by simp)
   ·have hpos:0<rows.length:=List.length_pos_iff.2 he;obtain ⟨l',_,hl',hL,_⟩:=h.rows hk' (by intro e;subst e;simp at hle;omega);rw[hl] at hl';cases hl';have:=KP h hk' hl hL hc2 (hdis _ _ _ hk hl hL) ih hle hrows (by omega);exact this
  | map k l hl =>
   simp only[iG] at hf;split at hf
   ·rename_i ro es hk;simp only[aa] at hf;obtain ⟨ts,hts,rfl⟩:=hf;obtain ⟨g1,g2⟩:=mapM_some_length hts;obtain ⟨l',hl',hL,o,ho,hb⟩:=h.loc (hτ _ _ hk) (λ_ _ e=>by cases e);rw[hl] at hl';cases hl';cases hb with
    | rows _ _ _ hr=>simp[dZ] at hr
    | map _ _ ents h1 h2 =>
     have hex:∀ i (hi:i<ts.length),∃ e,ents[i]? = some e/\e.key=ts[i].1/\e.born=i/\cO w own0 ts[i].2 e.val:=by
      intro i hi;obtain ⟨e,a1,a2,a3,a4⟩:=h2 i (by omega);have g3:=g2 i (by omega) hi;simp only[aa] at g3;obtain ⟨t,g4,g5⟩:=g3;refine ⟨e,a1,?_,a3,?_⟩
      ·rw[<-g5];exact a2
      ·rw[<-g5];exact ih a4 g4
     refine .mp ts l.bJ ents (λi=>ents.getD i ⟨undef,undef,0⟩) (hdis _ _ _ hk hl hL) ((h.new k l hl).2 hL).1 (by rw[g1];exact ho) (by omega) (λi hi=>?_) (λi hi=>?_)
     ·obtain ⟨e,a1,a2,a3,_⟩:=hex i hi;rw[show ents.getD i ⟨undef,undef,0⟩=e by rw[Array.getD_eq_getD_getElem?,a1];rfl];exact ⟨a1,a2,a3⟩
     ·obtain ⟨e,a1,_,_,a4⟩:=hex i hi;rw[show ents.getD i ⟨undef,undef,0⟩=e by rw[Array.getD_eq_getD_getElem?,a1];rfl];exact a4
   ·cases hf
  | it k l hl=>simp[iG] at hf
  | rZ d v hd=>simp[iG] at hf
  | CK d=>simp[iG] at hf
  | any v=>simp[iG] at hf
def DT (h:Inv cx ρ σ n w) (m:Nat) {d:D} {t:T} {v:Value} (hd:Rd w (Own cx ρ σ) ρ d v) (hf:iG σ m d=some t):cO w cx.own t v :=
 DS h (λ_ h=>.inl h) (λ_ _ h=>h) (λ_ _ _ _ hl hL=>h.A3C hl hL) m hd hf
def FB (ih:∀ {d:D} {t:T} {v:Value},Rd w (Own cx ρ σ) ρ d v->iG σ m d=some t->cO w cx.own t v) {ts:List T} {vs:Array Value} (h:dF (Rd w (Own cx ρ σ) ρ) ds vs)
  (hf:ds.mapM (iG σ m)=some ts):dF (cO w cx.own) ts vs:=FA ih h hf
end
structure aM (P:Program) (f:FuncId) (g:List T->Option T):Prop where
 entry:∃ fn,P.funcs[f]? = some fn/\(fn.name == "runtime.NumGoroutine")=false/\fn.body.isNone=false
 calls:∀ (w:World) (own:Nat->Prop) (args:List T) (vs:Array Value) (r:T),Good P w->(∀ b,own b->b<w.heap.size)->dF (cO w own) args vs->g args=some r ->
  Calls P f vs w (λe w'=>∃ v,e = .returned v/\cO w' own r v/\Below w.heap.size w w')
structure N4 (P:Program) (f:FuncId) (c:Nat) (g:List T->Option T):Prop where
 entry:∃ fn,P.funcs[f]? = some fn/\(fn.name == "runtime.NumGoroutine")=false/\fn.body.isNone=false
 calls:∀ (w:World) (own:Nat->Prop) (args:List T) (vs:Array Value) (cs:List T),Good P w->(∀ b,own b->b<w.heap.size)->dF (cO w own) args vs->g args=some (.agg cs) ->
  Calls P f vs w (λe w'=>∃ vc:Array Value,e = .returned (.agg vc)/\Below w.heap.size w w'/\vc.size=cs.length/\∀ fl r0 rows,cs[c]? = some (.sl fl (r0::rows)) ->
   ∃ bJ sz C ty cc,(∀ i (h:i<cs.length),i≠c->cO w' (λb=>own b\/b=bJ) cs[i] (vc.getD i undef))/\vc.getD c undef = .slice (some ⟨bJ,0,none⟩) (r0::rows).length C/\C<=maxLen/\w.heap.size<=bJ /\
    w'.heap[bJ]? = some (.cells cc ty (0,0))/\dU w' (λb=>own b\/b=bJ) (λ_=>none) ⟨bJ,sz,C,ty,(r0::rows).length⟩ (.cells cc ty (0,0)) (.arr false sz (r0::rows)))
structure fE (P:Program) (f:FuncId) (g:List T->Option (List (List T))):Prop where
 entry:∃ fn,P.funcs[f]? = some fn/\(fn.name == "runtime.NumGoroutine")=false/\fn.body.isNone=false
 calls:∀ (w:World) (own:Nat->Prop) (args:List T) (vs:Array Value) (rows:List (List T)),Good P w->(∀ b,own b->b<w.heap.size)->dF (cO w own) args vs->g args=some rows ->
  Calls P f vs w (λe w'=>∃ v,e = .returned v/\Below w.heap.size w w'/\(rows=[]->cO w' own (.sl false []) v) /\
   (rows≠[]->∃ bJ sz C ty c,v = .slice (some ⟨bJ,0,none⟩) rows.length C/\C<=maxLen/\w.heap.size<=bJ/\w'.heap[bJ]? = some (.cells c ty (0,0)) /\
    dU w' (λb=>own b\/b=bJ) (λ_=>none) ⟨bJ,sz,C,ty,rows.length⟩ (.cells c ty (0,0)) (.arr false sz rows)))
structure ABK (P:Program) (f:FuncId) (g:List T->Option (List (List T))):Prop where
 entry:∃ fn,P.funcs[f]? = some fn/\(fn.name == "runtime.NumGoroutine")=false/\fn.body.isNone=false
 calls:∀ (w:World) (own:Nat->Prop) (args:List T) (vs:Array Value) (rows:List (List T)),Good P w->(∀ b,own b->b<w.heap.size)->dF (cO w own) args vs->g args=some rows ->
  Calls P f vs w (λe w'=>∃ v,e = .returned v/\Below w.heap.size w w'/\(rows=[]->cO w' own (.sl true []) v) /\
   (rows≠[]->∃ bJ sz C ty c,v = .slice (some ⟨bJ,0,none⟩) rows.length C/\C<=maxLen/\w.heap.size<=bJ/\w'.heap[bJ]? = some (.cells c ty (0,0)) /\
    dU w' (λb=>own b\/b=bJ) (λ_=>none) ⟨bJ,sz,C,ty,rows.length⟩ (.cells c ty (0,0)) (.arr false sz rows)))
structure cB (P:Program) (f:FuncId) (g:List D->(Nat->Option bE)->Nat->Option (D×(Nat->Option bE)×Nat)):Prop where
 entry:∃ fn,P.funcs[f]? = some fn/\(fn.name == "runtime.NumGoroutine")=false/\fn.body.isNone=false
 calls:∀ (cx:Cx) (ρ:Nat->Option Loc) (σ:Nat->Option bE) (n:Nat) (w:World) (args:List D) (vs:Array Value) (d:D) (σ':Nat->Option bE) (n':Nat),cx.P=P->Good P w->Inv cx ρ σ n w->dF (Rd w (Own cx ρ σ) ρ) args vs ->
  g args σ n=some (d,σ',n')->Calls P f vs w (λe w'=>∃ v ρ',e = .returned v/\Inv cx ρ' σ' n' w'/\bO cx ρ ρ' σ σ' w w'/\Rd w' (Own cx ρ' σ') ρ' d v)
structure o0 (P:Program) (f:FuncId) (g:List D->(Nat->Option bE)->Nat->Option T):Prop where
 entry:∃ fn,P.funcs[f]? = some fn/\(fn.name == "runtime.NumGoroutine")=false/\fn.body.isNone=false
 calls:∀ (cx:Cx) (ρ:Nat->Option Loc) (σ:Nat->Option bE) (n:Nat) (w:World) (args:List D) (vs:Array Value) (r:T),cx.P=P->Good P w->Inv cx ρ σ n w->dF (Rd w (Own cx ρ σ) ρ) args vs ->
  g args σ n=some r->Calls P f vs w (λe w'=>∃ v,e = .returned v/\cO w' (Own cx ρ σ) r v/\Below w.heap.size w w')
structure kR (P:Program) (f:FuncId) (g:List T->Option T):Prop where
 entry:∃ fn,P.funcs[f]? = some fn/\(fn.name == "runtime.NumGoroutine")=false/\fn.body.isNone=false
 calls:∀ (w:World) (own:Nat->Prop) (args:List T) (vs:Array Value) (r:T),Good P w->(∀ b,own b->b<w.heap.size)->dF (cO w own) args vs->g args=some r ->
  Calls P f vs w (λe w'=>∃ v,e = .returned v/\cO w' (λb=>b<w.heap.size) r v/\Below w.heap.size w w')
def bN (es:List (iII×Int)):List (Value×T):=es.map λe=>(.string e.1,.v (.int .i64 e.2))
def sX (g:List T->Option (List (iII×Int))) (args:List T):Option T:=(g args).map λes=>.mp (bN es)
def BGF (P:Program) (f:FuncId) (g:List T->Option T):Prop :=
 ∀ (w:World) (own:Nat->Prop) (args:List T) (vs:Array Value) (r:T),dF (cO w own) args vs->g args=some r->∃ v,(callFunc f vs).run P w = .ok (.value v) w/\cO w own r v
inductive Fn where
 | pure (g:List T->Option T)
 | fresh (g:List T->Option (List (List T)))
 | heap (g:List D->(Nat->Option bE)->Nat->Option (D×(Nat->Option bE)×Nat))
 | read (g:List D->(Nat->Option bE)->Nat->Option T)
 | perm (z:Nat) (g:List (List T)->Option (List (List T)))
 | mark
 | both (g:List D->(Nat->Option bE)->Nat->Option T) (h:List D->(Nat->Option bE)->Nat->Option (D×(Nat->Option bE)×Nat))
 | new (g:List T->Option T)
 | ATX (g:List T->Option (List (iII×Int)))
 | ext (g:List T->Option T)
 | PL (g:List T->Option (List (List T)))
 | grow (z:Nat) (g:List (List T)->List T->Option (List (List T)))
 | dup (z b:Nat)
 | room (z b:Nat)
 | part (c:Nat) (g:List T->Option T)
 | BEM (g:List T->Option T)
 | BJC (vs:List TypeId) (g:List T->Option T)
 | BMR (g:List T->Option T)
 | BKW (g:List T->Option T)
def xV (z:Nat) (g:List (List T)->Option (List (List T))):List D->(Nat->Option bE)->Nat->Option (D×(Nat->Option bE)×Nat):=λargs σ n=>match args with
 | [.own k]=>match σ k with
  | some (.arr false z' rows)=>match decide (z'=z) with
   | true=>(g rows).map λrows'=>(.p (.v (.tuple #[])),b8 σ k (some (.arr false z rows')),n+1)
   | false=>none
  | _=>none
 | _=>none
def j5 (z:Nat) (g:List (List T)->List T->Option (List (List T))):List D->(Nat->Option bE)->Nat->Option (D×(Nat->Option bE)×Nat):=λargs σ n=>match args with
 | .own k::rest=>match σ k with
  | some (.arr false z' rows)=>match decide (z'=z),j0 rest with
   | true,some ts=>(g rows ts).map λrows'=>(.own n,b8 (b8 σ k none) n (some (.arr false z rows')),n+1)
   | _,_=>none
  | _=>none
 | _=>none
def DU (z b:Nat):List D->(Nat->Option bE)->Nat->Option (D×(Nat->Option bE)×Nat):=λargs σ n=>match args with
 | [.own k]=>match σ k with
  | some (.arr _ z' rows)=>match decide (z'=z)&&decide (rows.length*b<=140737488355328)&&decide (rows.length<=140737488355328) with
   | true=>some (.own n,b8 σ n (some (.arr false z rows)),n+1)
   | false=>none
  | _=>none
 | [.p t]=>match fP t with
  | some (_,rows)=>match (rows.all λr=>decide (r.length=z))&&decide (rows.length*b<=140737488355328)&&decide (rows.length<=140737488355328) with
   | true=>some (.own n,b8 σ n (some (.arr false z rows)),n+1)
   | false=>none
  | none=>none
 | _=>none
def KQ (z b:Nat):List D->(Nat->Option bE)->Nat->Option (D×(Nat->Option bE)×Nat):=λargs σ n=>match args with
 | [.p (.v (.slice none 0 0)),.p (.v (.int .i64 m))]=>match decide (0<=m)&&decide (m.toNat*b<=140737488355328)&&decide (m.toNat<=140737488355328) with
  | true=>some (.own n,b8 σ n (some (.arr false z [])),n+1)
  | false=>none
 | _=>none
def A83:List T->T
 | [t]=>t
 | ts=>.bX ts
def ADB (g:List T->Option T):List D->(Nat->Option bE)->Nat->Option (D×(Nat->Option bE)×Nat):=λargs σ n=>match args with
 | .ptr k i j::rest=>match decide (i=0)&&decide (j=0),σ k with
  | true,some (.rows false [ds])=>match j0 ds,j0 rest with
   | some cs,some ts=>match g (.agg cs::ts) with
    | some (.bX (.agg cs'::ts'))=>match decide (cs'.length=cs.length) with
     | true=>some (.p (A83 ts'),b8 σ k (some (.rows false [cs'.map .p])),n+1)
     | false=>none
    | _=>none
   | _,_=>none
  | _,_=>none
 | _=>none
def CR (σ:Nat->Option bE):List (Nat×D)->Option (List (Nat×D)×(Nat->Option bE))
 | []=>some ([],σ)
 | (i,.own k)::r=>match σ k with
  | some (.arr false z rows)=>(CR (b8 σ k none) r).map λx=>((i,.p (.sl false rows))::x.1,x.2)
  | _=>none
 | (i,d)::r=>(CR σ r).map λx=>((i,d)::x.1,x.2)
def T.canon:Nat->T->T
 | _,.sl _ rows=>.sl false rows
 | _,.v (.slice none 0 0)=>.sl false []
 | _,.ne _=>.sl false []
 | n+1,.agg cs=>.agg (cs.map (T.canon n))
 | n+1,.bX cs=>.bX (cs.map (T.canon n))
 | _,t=>t
def J9:List D->List D×List D
 | []=>([],[])
 | .ptr k i j::r=>([],.ptr k i j::r)
 | d::r=>(d::(J9 r).1,(J9 r).2)
def A8I:List D->Option (List Nat)
 | []=>some []
 | .ptr k i j::r=>match decide (i=0)&&decide (j=0) with
  | true=>(A8I r).map (k :: ·)
  | false=>none
 | _=>none
def BHO:List Nat->List Nat->Bool
 | [],[]=>true
 | a::l,b::m=>Nat.beq a b&&BHO l m
 | _,_=>false
def nodupB:List Nat->Bool
 | []=>true
 | a::l=>(l.all λb=>!Nat.beq a b)&&nodupB l
def z6 (σ:Nat->Option bE):List Nat->Option (List (List T))
 | []=>some []
 | k::r=>match σ k with
  | some (.rows false [ds])=>match j0 ds,z6 σ r with
   | some row,some rs=>some (row.map (T.canon 4)::rs)
   | _,_=>none
  | _=>none
def BP3 (f:FuncId) (σ:Nat->Option bE) (s:Nat) (ks:List Nat):Option (List T):=match σ s with
 | some (.rows _ [[.fn f' [] caps]])=>match decide (f'=f),j0 (J9 caps).1,A8I (J9 caps).2 with
  | true,some vs,some ks'=>match BHO ks' ks with
   | true=>some (vs.map (T.canon 4))
   | false=>none
  | _,_,_=>none
 | _=>none
def XF (f:FuncId) (args:List D) (σ:Nat->Option bE):Option (List T×List (List T)×List Nat×(Nat->Option bE)) :=
 match CR σ ((J9 args).1.map λd=>(0,d)),A8I (J9 args).2 with
 | some (ps,σ1),some ks=>match j0 (ps.map (·.2)),ks.getLast?,nodupB ks with
  | some pre,some s,true=>match z6 σ1 ks.dropLast,BP3 f σ1 s ks with
   | some rows,some vals=>some (.bX (pre.map (T.canon 4)) :: .bX vals::rows.map .agg,rows,ks.dropLast,σ1)
   | _,_=>none
  | _,_,_=>none
 | _,_=>none
def ALO:List (List T)->List T->Bool
 | [],_=>true
 | row::rows,.agg cs::ts=>Nat.beq cs.length row.length&&ALO rows ts
 | _,_=>false
def A9R (σ:Nat->Option bE):List Nat->List T->(Nat->Option bE)
 | k::ks,.agg cs::ts=>A9R (b8 σ k (some (.rows false [cs.map .p]))) ks ts
 | _,_=>σ
def AC9 (f:FuncId) (g:List T->Option T):List D->(Nat->Option bE)->Nat->Option (D×(Nat->Option bE)×Nat):=λargs σ n=>match XF f args σ with
 | some (ins,rows,kk,σ1)=>match g ins with
  | some (.bX ts)=>match ALO rows ts with
   | true=>some (.p (A83 (ts.drop rows.length)),A9R σ1 kk ts,n+1)
   | false=>none
  | _=>none
 | none=>none
def AQA (args:List D) (σ:Nat->Option bE):Option (Nat×List T×List T×(Nat->Option bE)):=match args with
 | .ptr k i j::rest=>match decide (i=0)&&decide (j=0),CR σ (rest.map λd=>(0,d)) with
  | true,some (ps,σ1)=>match σ1 k,j0 (ps.map (·.2)) with
   | some (.rows false [ds]),some ts=>match j0 ds with
    | some cs=>some (k,cs.map (T.canon 4),ts.map (T.canon 4),σ1)
    | none=>none
   | _,_=>none
  | _,_=>none
 | _=>none
def ADC (g:List T->Option T):List D->(Nat->Option bE)->Nat->Option (D×(Nat->Option bE)×Nat):=λargs σ n=>match AQA args σ with
 | some (k,cs,ts,σ1)=>match g (.agg cs::ts) with
  | some (.bX (.agg cs'::ts'))=>match Nat.beq cs'.length cs.length with
   | true=>some (.p (A83 ts'),b8 σ1 k (some (.rows false [cs'.map .p])),n+1)
   | false=>none
  | _=>none
 | none=>none
def BM2 (k:Nat) (rows:List (List T)):D->D
 | .own j=>match Nat.beq j k with
  | true=>.p (.sl false rows)
  | false=>.own j
 | d=>d
def BQT (k:Nat) (rows:List (List T)):D->D
 | .agg cs=>.agg (cs.map (BM2 k rows))
 | d=>BM2 k rows d
def AN4 (k:Nat) (rows:List (List T)):bE->bE
 | .rows false rs=>.rows false (rs.map λr=>r.map (BM2 k rows))
 | x=>x
def BMZ (σ:Nat->Option bE) (k:Nat) (rows:List (List T)):Nat->Option bE:=λj=>match Nat.beq j k with
 | true=>none
 | false=>(σ j).map (AN4 k rows)
def BPT:D->List Nat
 | .own k=>[k]
 | _=>[]
def BHG:D->List Nat
 | .agg cs=>cs.flatMap BPT
 | d=>BPT d
def UR (σ:Nat->Option bE):List Nat->List D->Option (List D×(Nat->Option bE))
 | [],args=>some (args,σ)
 | k::ks,args=>match σ k with
  | some (.arr false _ rows)=>UR (BMZ σ k rows) ks (args.map (BQT k rows))
  | none=>UR σ ks args
  | _=>none
def ADA (g:List T->Option T):List D->(Nat->Option bE)->Nat->Option (D×(Nat->Option bE)×Nat):=λargs σ n=>match UR σ (args.flatMap BHG) args with
 | some (args',σ1)=>match args'.mapM (iG (λ_=>none) 2) with
  | some ts=>(g (ts.map (T.canon 4))).map λr=>(.p r,σ1,n+1)
  | none=>none
 | none=>none
def BN5 (P:Program) (f:FuncId):Fn->Prop
 | .pure g=>aM P f g
 | .fresh g=>fE P f g
 | .heap g=>cB P f g
 | .read g=>o0 P f g
 | .perm z g=>cB P f (xV z g)
 | .mark=>True
 | .both g h=>o0 P f g/\cB P f h
 | .new g=>kR P f g
 | .ATX g=>kR P f (sX g)
 | .ext g=>BGF P f g
 | .PL g=>ABK P f g
 | .grow z g=>cB P f (j5 z g)
 | .dup z y=>cB P f (DU z y)
 | .room z y=>cB P f (KQ z y)
 | .part c g=>N4 P f c g
 | .BEM g=>cB P f (ADB g)
 | .BJC _ g=>cB P f (AC9 f g)
 | .BMR g=>cB P f (ADC g)
 | .BKW g=>cB P f (ADA g)
def Env:=FuncId->Option Fn
def Env.of:List (FuncId×Fn)->Env
 | [],_=>none
 | (k,x)::r,f=>if k=f then some x else Env.of r f
def Env.marked (E:Env) (t:TypeId):Bool:=match E (1000000000+t) with
 | some .mark=>true
 | _=>false
def Env.still (E:Env) (t:TypeId):Bool:=match E (4000000000+t) with
 | some .mark=>true
 | _=>false
def Env.A6K (E:Env) (f:FuncId):Bool:=match E f with
 | some (.pure _)=>true
 | some (.read _)=>true
 | some (.new _)=>true
 | some (.ATX _)=>true
 | some (.ext _)=>true
 | _=>false
def aQ (P:Program) (E:Env):Prop:=∀ f x,E f=some x->BN5 P f x
def Env.view (E:Env) (draw:Bool):Env:=λf=>match E f with
 | some (.both g h)=>match draw with
  | true=>some (.read g)
  | false=>some (.heap h)
 | x=>x
variable {P:Program}{E:Env}
def aQ.view (h:aQ P E) (draw:Bool):aQ P (E.view draw):=by
 intro f x hx;unfold Env.view at hx;split at hx
 ·rename_i g k he;have hk:o0 P f g/\cB P f k:=h f _ he;split at hx
  ·cases hx;exact hk.1
  ·cases hx;exact hk.2
 ·exact h f x hx
def aQ.nil (P:Program):aQ P (Env.of []):=λf x h=>by simp[Env.of] at h
def aQ.cons {l:List (FuncId×Fn)} {f:FuncId} {x:Fn} (h:BN5 P f x) (hE:aQ P (Env.of l)):aQ P (Env.of ((f,x)::l)):=by
 intro f' x' hx;simp only[Env.of] at hx;split at hx
 ·simp_all
 ·exact hE f' x' hx
def T.wX:Nat->T->Bool
 | _,.v _=>true
 | n+1,.bX ts=>ts.all (T.wX n)
 | n+1,.agg ts=>ts.all (T.wX n)
 | _,_=>false
def T.flat (t:T):Bool:=T.wX 3 t
variable {own':Nat->Prop}
def cO.BE0 {w:World} {own:Nat->Prop}:∀ (n:Nat) {t:T} {v:Value},cO w own t v->T.wX n t=true->cO w own' t v:=by
 intro n
 induction n with
 | zero =>
  intro t v h hf;cases h with
  | v=>exact .v _
  | _=>simp[T.wX] at hf
 | succ n ih =>
  intro t v h hf;cases h with
  | v=>exact .v _
  | bX cs vs h1 h2 =>
   exact .bX cs vs h1 λi hi=>ih (h2 i hi) (List.all_eq_true.1 hf _ (aj hi))
  | agg cs vs h1 h2 =>
   exact .agg cs vs h1 λi hi=>ih (h2 i hi) (List.all_eq_true.1 hf _ (aj hi))
  | _=>simp[T.wX] at hf
def cO.I5 {w:World} {own:Nat->Prop} {t:T} {v:Value} (h:cO w own t v) (hf:t.flat=true):cO w own' t v:=cO.BE0 3 h hf
def jT (c:D):Option (FuncId×List D×List D) :=
 match c with
 | .p (.fn f a b)=>some (f,a.map .p,b.map .p)
 | .fn f a b=>some (f,a,b)
 | _=>none
def qR (E:Env) (σ:Nat->Option bE) (n:Nat) (c:D) (args:List D):Option D :=
 match jT c with
 | some (f,a,b) =>
  match E f with
  | some (.pure g) =>
   match j0 (a++args++b) with
   | some ts=>(g ts).map .p
   | none =>
    match (a++args++b).mapM (iG σ 4) with
    | some ts=>match g ts with
     | some r=>if r.flat then some (.p r) else none
     | none=>none
    | none=>none
  | some (.read g)=>(g (a++args++b) σ n).map .p
  | some (.new g)=>match (a++args++b).mapM (iG σ 4) with
   | some ts=>(g ts).map .p
   | none=>none
  | some (.ATX g)=>match (a++args++b).mapM (iG σ 4) with
   | some ts=>(g ts).map λes=>.p (.mp (bN es))
   | none=>none
  | some (.ext g)=>match j0 (a++args++b) with
   | some ts=>(g ts).map .p
   | none=>none
  | _=>none
 | none=>none
section
variable {cx : Cx} {ρ : Nat -> Option Loc} {σ : Nat -> Option bE} {n : Nat} {w : World}
def HZ {own:Nat->Prop} {c:D} {x:Value} {f:FuncId} {a b:List D} (hc:Rd w own ρ c x) (h:jT c=some (f,a,b)):∃ va vb,x = .func (.func f) va vb/\dF (Rd w own ρ) a va/\dF (Rd w own ρ) b vb:=by
 unfold jT at h;split at h
 ·cases h;cases hc with
  | p _ _ hc =>
  cases hc with
  | fn _ _ _ va vb h1 h2 h3 h4=>exact ⟨va,vb,rfl,dF.map (R:=cO w own) _ ⟨h1,h3⟩ (λ_ _ h=>.p _ _ h),dF.map (R:=cO w own) _ ⟨h2,h4⟩ (λ_ _ h=>.p _ _ h)⟩
 ·cases h;cases hc with
  | fn _ _ _ va vb h1 h2 h3 h4=>exact ⟨va,vb,rfl,⟨h1,h3⟩,⟨h2,h4⟩⟩
 ·cases h
variable {ds:List D}
def vE {own:Nat->Prop} {ts:List T} {vs:Array Value} (h:dF (Rd w own ρ) ds vs) (ht:j0 ds=some ts):dF (cO w own) ts vs:=by
 have e:=gR ht;subst e;refine ⟨by simpa using h.1,λi hi=>?_⟩;have:=h.2 i (by simpa using hi);simp only[List.getElem_map] at this;cases this with
 | p _ _ h=>exact h
def ACA (hE:aQ cx.P E) (hI:Inv cx ρ σ n w) (hG:Good cx.P w) {c:D} {x:Value} {args:List D} {vargs:Array Value} {r:D} (hc:Rd w (Own cx ρ σ) ρ c x) (ha:dF (Rd w (Own cx ρ σ) ρ) args vargs)
  (h:qR E σ n c args=some r):(∃ f as,(do let d <-Deferred.ofValue x vargs;invoke d.target d.args:Sem Next).run cx.P w = .ok (.enter f as) w /\
   Calls cx.P f as w (λe w'=>∃ v,e = .returned v/\Rd w' (Own cx ρ σ) ρ r v/\Below w.heap.size w w')) \/
   ∃ v,(do let d <-Deferred.ofValue x vargs;invoke d.target d.args:Sem Next).run cx.P w = .ok (.value v) w/\Rd w (Own cx ρ σ) ρ r v:=by
 have newC:∀ {f:FuncId} {g:List T->Option T} {ds:List D} {va vb:Array Value} {ts:List T} {r':T},kR cx.P f g->dF (Rd w (Own cx ρ σ) ρ) ds (va++vargs++vb)->ds.mapM (iG σ 4)=some ts->g ts=some r' ->
   ∃ f' as,(do let d <-Deferred.ofValue (.func (.func f) va vb) vargs;invoke d.target d.args:Sem Next).run cx.P w = .ok (.enter f' as) w/\Calls cx.P f' as w (λe w'=>∃ v,e = .returned v/\Rd w' (Own cx ρ σ) ρ (.p r') v/\Below w.heap.size w w'):=by
  intro f g ds va vb ts r' hf hargs hts hr;obtain ⟨fn,e1,e2,e3⟩:=hf.entry;refine ⟨f,va++vargs++vb,?_,?_⟩
  ·have e2':¬ fn.name = "runtime.NumGoroutine" := by simpa using e2
   have e3':¬ fn.body=none:=by intro h;simp[h] at e3
   simp[Deferred.ofValue,invoke,callFunc,e1,e2',e3']
  ·have hts':=FB (λhd ht=>DT hI 4 hd ht) hargs hts;refine (hf.calls w cx.own ts _ r' hG (λb hb=>by have:=hI.kT b hb;have:=hI.below.size;omega) hts' hr).mono ?_;rintro e w' ⟨v,rfl,h3,h4⟩;exact ⟨v,rfl,.p _ _ (h3.less λb hb=>Own.lt hI hb),h4⟩
 unfold qR at h;split at h
 ·rename_i f a b hcal;obtain ⟨va,vb,rfl,h1,h2⟩:=HZ hc hcal;split at h
  ·rename_i g hg;have hf:aM cx.P f g:=hE f _ hg;obtain ⟨fn,e1,e2,e3⟩:=hf.entry;have hargs:dF (Rd w (Own cx ρ σ) ρ) (a++args++b) (va++vargs++vb):=(h1.append ha).append h2;refine .inl ⟨f,va++vargs++vb,?_,?_⟩
   ·have e2':¬ fn.name = "runtime.NumGoroutine" := by simpa using e2
    have e3':¬ fn.body=none:=by intro h;simp[h] at e3
    simp[Deferred.ofValue,invoke,callFunc,e1,e2',e3']
   ·split at h
    ·rename_i ts hts;simp only[aa] at h;obtain ⟨r',hr,rfl⟩:=h;refine (hf.calls w (Own cx ρ σ) ts _ r' hG (λb hb=>Own.lt hI hb) (vE hargs hts) hr).mono ?_;rintro e w' ⟨v,rfl,h3,h4⟩;exact ⟨v,rfl,.p _ _ h3,h4⟩
    ·split at h
     ·rename_i ts hts;split at h
      ·rename_i r' hr;split at h
       ·rename_i hfl;cases h;have hts':=FB (λhd ht=>DT hI 4 hd ht) hargs hts;refine (hf.calls w cx.own ts _ r' hG (λb hb=>by have:=hI.kT b hb;have:=hI.below.size;omega) hts' hr).mono ?_;rintro e w' ⟨v,rfl,h3,h4⟩;exact ⟨v,rfl,.p _ _ (h3.I5 hfl),h4⟩
       ·cases h
      ·cases h
     ·cases h
  ·rename_i g hg;have hf:o0 cx.P f g:=hE f _ hg;obtain ⟨fn,e1,e2,e3⟩:=hf.entry;have hargs:dF (Rd w (Own cx ρ σ) ρ) (a++args++b) (va++vargs++vb):=(h1.append ha).append h2;refine .inl ⟨f,va++vargs++vb,?_,?_⟩
   ·have e2':¬ fn.name = "runtime.NumGoroutine" := by simpa using e2
    have e3':¬ fn.body=none:=by intro h;simp[h] at e3
    simp[Deferred.ofValue,invoke,callFunc,e1,e2',e3']
   ·simp only[aa] at h;obtain ⟨r',hr,rfl⟩:=h;refine (hf.calls cx ρ σ n w _ _ r' rfl hG hI hargs hr).mono ?_;rintro e w' ⟨v,rfl,h3,h4⟩;exact ⟨v,rfl,.p _ _ h3,h4⟩
  ·rename_i g hg;split at h
   ·rename_i ts hts;simp only[aa] at h;obtain ⟨r',hr,rfl⟩:=h;exact .inl (newC (hE f _ hg) ((h1.append ha).append h2) hts hr)
   ·cases h
  ·rename_i g hg;split at h
   ·rename_i ts hts;simp only[aa] at h;obtain ⟨es,hr,rfl⟩:=h;exact .inl (newC (g:=sX g) (hE f _ hg) ((h1.append ha).append h2) hts (by simp[sX,hr]))
   ·cases h
  ·rename_i g hg;have hf:BGF cx.P f g:=hE f _ hg;have hargs:dF (Rd w (Own cx ρ σ) ρ) (a++args++b) (va++vargs++vb):=(h1.append ha).append h2;split at h
   ·rename_i ts hts;simp only[aa] at h;obtain ⟨r',hr,rfl⟩:=h;obtain ⟨v,h3,h4⟩:=hf w _ ts _ r' (vE hargs hts) hr;refine .inr ⟨v,?_,.p _ _ h4⟩;simpa [Deferred.ofValue,invoke] using h3
   ·cases h
  ·cases h
 ·cases h
end
end Go.Pv
