/-
  The pure evaluator, part l: one operation of a region.
-/
import Derived.Test.YtepoplfbgaoggaaGreatDoorOnewy
set_option linter.defProp false
set_option linter.unusedSimpArgs false
namespace Go.Pv
open Go Go.RowKit
def ASZ (P:Program) (σ:Nat->Option bL) (k:Nat) (t:TypeId) (d:D):Option (D×(Nat->Option bL)) :=
 match P.underlying t,d with
 | some .string,.p (.v (.string s))=>some (.it k,cJ σ k (some (.mL s 0)))
 | _,_=>none
def Z7 (σ:Nat->Option bL) (isString:Bool) (d:D):Option (D×(Nat->Option bL)) :=
 match isString,d with
 | true,.it k =>
  match σ k with
  | some (.mL s pos) =>
   if pos<s.size then some (.p (.v (.tuple #[.bool true,.int .i64 pos,.int .i32 (Utf8.decode s pos).1])),cJ σ k (some (.mL s (pos+(Utf8.decode s pos).2))))
   else some (.p (.v (.tuple #[.bool false])),σ)
  | _=>none
 | _,_=>none
def u9 (E:Env) (σ:Nat->Option bL) (k:Nat) (c:D) (args:List D):Option (D×(Nat->Option bL)×Nat) :=
 match lC c with
 | some (f,a,b) =>
  match E f with
  | some (.fresh g) =>
   match qU (a++args++b) with
   | some ts=>match g ts with
    | some rows=>match rows with
     | []=>some (.p (.sl false []),σ,k+1)
     | r::rows=>some (.own k,cJ σ k (some (.arr false r.length (r::rows))),k+1)
    | none=>none
   | none=>match (a++args++b).mapM (j1 σ 4) with
    | some ts=>match g ts with
     | some (r::rows)=>match (r::rows).all λr=>r.all T.flat with
      | true=>some (.own k,cJ σ k (some (.arr false r.length (r::rows))),k+1)
      | false=>none
     | _=>none
    | none=>none
  | some (.part c g)=>match qU (a++args++b) with
   | some ts=>match g ts with
    | some (.agg cs)=>match cs[c]? with
     | some (.sl _ (r::rows))=>some (.agg ((cs.map D.p).set c (.own k)),cJ σ k (some (.arr false r.length (r::rows))),k+1)
     | _=>none
    | _=>none
   | none=>none
  | some x=>match U0 x with
   | some g=>g (a++args++b) σ k
   | none=>none
  | none=>none
 | none=>none
def AIE (E:Env) (σ:Nat->Option bL) (k:Nat) (c:D) (args:List D):Option (D×(Nat->Option bL)×Nat) :=
 match u9 E σ k c args with
 | some r=>some r
 | none=>(rY E σ k c args).map λd=>(d,σ,k)
def one (k:Nat) (x:Option (D×(Nat->Option bL))):Option (D×(Nat->Option bL)×Nat):=x.map λx=>(x.1,x.2,k+1)
def nv (P:Program) (E:Env) (σ:Nat->Option bL) (s:Nat->D) (k:Nat) (op:Op):Option (D×(Nat->Option bL)×Nat) :=
 match op with
 | .alloc e=>one k ((tz? P e).bind λz=>(uW (z.cells.toList.map λv=>.p (.v v))).map λb=>(.ptr k 0 0,cJ σ k (some b)))
 | .box _ x=>one k ((uW (ev s x).cells).map λb=>(.ptr k 0 0,cJ σ k (some b)))
 | .store t a v=>one k ((lV P σ t (ev s a) (ev s v)).map λσ'=>(.p (.v undef),σ'))
 | .range t x=>match AVH P σ k t (ev s x) with
  | some r=>one k (some r)
  | none=>one k (ASZ P σ k t (ev s x))
 | .makeMap t r=>match r with
  | none=>one k (some (.map k,cJ σ k (some (.map false []))))
  | some r=>match ev s r,P.underlying t with
   | .p (.v (.int _ _)),some (.map _ _)=>one k (some (.map k,cJ σ k (some (.map false []))))
   | _,_=>none
 | .makeSlice t l c=>one k (Z3 P σ k t (ev s l) (ev s c))
 | .mapUpdate t m i v=>one k ((A11 P σ t (ev s m) (ev s i) (ev s v)).map λσ'=>(.p (.v undef),σ'))
 | .entry it=>one k ((A8H σ (ev s it)).map λd=>(d,σ))
 | .next it isString=>one k (Z7 σ isString (ev s it))
 | .call c =>
  match c.callee,c.args.toList,c.argTypes.toList with
  | .builtin .append,[x,y],[t,u]=>one k (kC P σ k t u (ev s x) (ev s y))
  | .value f,as,_=>AIE E σ k (ev s f) (as.map (ev s))
  | _,_,_=>none
 | _=>none
section
variable {cx : Cx} {ρ : Nat -> Option Loc} {σ : Nat -> Option bL} {n : Nat} {w : World}
variable {E:Env}{σ':Nat->Option bL}{n':Nat}
def AZJ (hE:bB cx.P E) (hI:Inv cx ρ σ n w) (hG:Good cx.P w) {c:D} {x:Value} {args:List D} {vargs:Array Value} {d:D} (hc:Rd w (bY cx ρ σ) ρ c x) (ha:dO (Rd w (bY cx ρ σ) ρ) args vargs)
  (h:u9 E σ n c args=some (d,σ',n')):∃ f as,(do let d <-Deferred.ofValue x vargs;invoke d.target d.args:Sem Next).run cx.P w = .ok (.enter f as) w /\
   Calls cx.P f as w (λe w'=>∃ v ρ',e = .returned v/\Inv cx ρ' σ' n' w'/\bZ cx ρ ρ' σ σ' w w'/\Rd w' (bY cx ρ' σ') ρ' d v):=by
 unfold u9 at h;split at h
 ·rename_i f a b hcal;obtain ⟨va,vb,rfl,h1,h2⟩:=LF hc hcal;have hargs:dO (Rd w (bY cx ρ σ) ρ) (a++args++b) (va++vargs++vb):=(h1.append ha).append h2;split at h
  ·rename_i g hg;have hf:gL cx.P f g:=hE f _ hg;obtain ⟨fn,e1,e2,e3⟩:=hf.entry;refine ⟨f,va++vargs++vb,?_,?_⟩
   ·have e2':¬ fn.name = "runtime.NumGoroutine" := by simpa using e2
    have e3':¬ fn.body=none:=by intro h;simp[h] at e3
    simp[Deferred.ofValue,invoke,callFunc,e1,e2',e3']
   ·split at h
    ·rename_i ts hts;split at h
     ·rename_i rows hr;refine (hf.calls w (bY cx ρ σ) ts _ rows hG (λb hb=>bY.lt hI hb) (xF hargs hts) hr).mono ?_;rintro e w' ⟨v,rfl,hb,h3,h4⟩;split at h
      ·rename_i he;cases h;exact ⟨v,ρ,rfl,hI.grow hb (by omega),bZ.pV hb,.p _ _ (h3 rfl)⟩
      ·rename_i r0 JP;generalize hrr:r0::JP=rows at *;have hne:rows≠[]:=by rw[<-hrr];simp
       cases h;obtain ⟨bV,sz,C,ty,cc,rfl,hC,hlt,ho,hbx⟩:=h4 hne;have hpos:0<rows.length:=List.length_pos_iff.2 hne;have hlen:rows.length<=C/\r0.length=sz:=by
        cases hbx with
        | rows _ rs c hr hz hb=>cases hr;exact ⟨by simpa using hb.len,by simpa using hb.width (r0.map .p) (by rw[<-hrr];simp[bK])⟩
       obtain ⟨hlen,rfl⟩:=hlen;obtain ⟨g1,g2⟩:=hI.oT (al n) ⟨bV,r0.length,C,ty,rows.length⟩ (.arr false r0.length rows) hb (λ_=>⟨hlt,(Array.getElem?_eq_some_iff.1 ho).1⟩) ⟨λ_=>⟨_,ho,hbx.mono (λ_ _ _=>rfl) (al _) (λb _ hn hc=>hn (by
        rcases hc with hc|⟨_,rfl⟩
        ·exact .inl hc
        ·exact .inr rfl)) (λk l hk=>by cases hk)⟩,λh=>by have:rows.length+C=0:=h;omega⟩
       refine ⟨_,_,rfl,g1,g2,?_⟩;exact .own n ⟨bV,r0.length,C,ty,rows.length⟩ (by simp) (by show 0<rows.length+C;omega) hlen hC
     ·cases h
    ·split at h
     ·rename_i ts hts;split at h
      ·rename_i r0 JP hr;split at h
       ·rename_i hfl;have hts':=AC8 (λhd ht=>UF hI 4 hd ht) hargs hts;refine (hf.calls w cx.own ts _ (r0::JP) hG (λb hb=>by have:=hI.nC b hb;have:=hI.below.size;omega) hts' hr).mono ?_;rintro e w' ⟨v,rfl,hb,h3,h4⟩;generalize hrr:r0::JP=rows at *;have hne:rows≠[]:=by rw[<-hrr];simp
        cases h;obtain ⟨bV,sz,C,ty,cc,rfl,hC,hlt,ho,hbx⟩:=h4 hne;have hpos:0<rows.length:=List.length_pos_iff.2 hne;have hlen:rows.length<=C/\r0.length=sz:=by
         cases hbx with
         | rows _ rs c hr hz hb=>cases hr;exact ⟨by simpa using hb.len,by simpa using hb.width (r0.map .p) (by rw[<-hrr];simp[bK])⟩
        obtain ⟨hlen,rfl⟩:=hlen;have hbx':gC w' (λb=>bY cx ρ σ b\/(0<rows.length+C/\b=bV)) (cJ ρ n (some ⟨bV,r0.length,C,ty,rows.length⟩)) ⟨bV,r0.length,C,ty,rows.length⟩ (.cells cc ty (0,0)) (.arr false r0.length rows):=by
         cases hbx with
         | rows _ rs c hr hz hb =>
          cases hr;refine .rows (l:=⟨bV,r0.length,C,ty,rows.length⟩) _ _ cc rfl hz ⟨hb.size,hb.pos,hb.small,hb.len,hb.uX,hb.width,λi j hi hj=>?_,hb.one⟩;obtain ⟨u,u1,u2⟩:=hb.cell i j hi hj;refine ⟨u,u1,?_⟩;have hi':i<rows.length:=by simpa using hi
          have hj':j<rows[i].length:=by simpa [bK] using hj
          have hx:(bK rows)[i][j] = .p rows[i][j]:=by simp[bK]
          rw[hx] at u2 ⊢;cases u2 with
          | p _ _ u2 =>
          exact .p _ _ (u2.VL (List.all_eq_true.1 (List.all_eq_true.1 hfl _ (ak hi')) _ (ak hj')))
        obtain ⟨g1,g2⟩:=hI.oT (al n) ⟨bV,r0.length,C,ty,rows.length⟩ (.arr false r0.length rows) hb (λ_=>⟨hlt,(Array.getElem?_eq_some_iff.1 ho).1⟩) ⟨λ_=>⟨_,ho,hbx'⟩,λh=>by have:rows.length+C=0:=h;omega⟩;refine ⟨_,_,rfl,g1,g2,?_⟩;exact .own n ⟨bV,r0.length,C,ty,rows.length⟩ (by simp) (by show 0<rows.length+C;omega) hlen hC
       ·cases h
      ·cases h
     ·cases h
  ·rename_i c g hg;have hf:LA cx.P f c g:=hE f _ hg;obtain ⟨fn,e1,e2,e3⟩:=hf.entry;split at h
   case h_2=>cases h
   rename_i ts hts;split at h
   case h_2=>cases h
   rename_i cs hcs;split at h
   case h_2=>cases h
   rename_i fl r0 rows hcc;refine ⟨f,va++vargs++vb,?_,?_⟩
   ·have e2':¬ fn.name = "runtime.NumGoroutine" := by simpa using e2
    have e3':¬ fn.body=none:=by intro h;simp[h] at e3
    simp[Deferred.ofValue,invoke,callFunc,e1,e2',e3']
   cases h;refine (hf.calls w (bY cx ρ σ) ts _ cs hG (λb hb=>bY.lt hI hb) (xF hargs hts) hcs).mono ?_;rintro e w' ⟨vc,rfl,hb,hvs,hx⟩;obtain ⟨bV,sz,C,ty,cc,hoth,hcv,hC,hlt,ho,hbx⟩:=hx fl r0 rows hcc;have hlen:(r0::rows).length<=C/\r0.length=sz:=by
    cases hbx with
    | rows _ rs c hr hz hb=>cases hr;exact ⟨by simpa using hb.len,by simpa using hb.width (r0.map .p) (by simp[bK])⟩
   obtain ⟨hlen,rfl⟩:=hlen;have hpos:0<(r0::rows).length:=by simp
   obtain ⟨g1,g2⟩:=hI.oT (al n) ⟨bV,r0.length,C,ty,(r0::rows).length⟩ (.arr false r0.length (r0::rows)) hb (λ_=>⟨hlt,(Array.getElem?_eq_some_iff.1 ho).1⟩) ⟨λ_=>⟨_,ho,hbx.mono (λ_ _ _=>rfl) (al _) (λb _ hn hc=>hn (by
    rcases hc with hc|⟨_,rfl⟩
    ·exact .inl hc
    ·exact .inr rfl)) (λk l hk=>by cases hk)⟩,λh=>by have:(r0::rows).length+C=0:=h;omega⟩
   refine ⟨_,_,rfl,g1,g2,?_⟩;refine .agg _ vc (by simpa using hvs) λi hi=>?_;have hi':i<cs.length:=by simpa using hi
   by_cases e:i=c
   ·subst e;rw[List.getElem_set_self,hcv];exact .own n ⟨bV,r0.length,C,ty,(r0::rows).length⟩ (by simp) (by show 0<(r0::rows).length+C;omega) hlen hC
   ·rw[List.getElem_set_ne (λe'=>e e'.symm),List.getElem_map];refine .p _ _ ((hoth i hi' e).less λb hb=>?_);rcases hb with hb|⟨j,l,x,h1,h2,h3,h4⟩
    ·exact .inl (.inl hb)
    ·by_cases ej:j=n
     ·subst ej;rw[jN] at h2;cases h2;exact .inr h4.symm
     ·rw[bU _ _ ej] at h1 h2;exact .inl (.inr ⟨j,l,x,h1,h2,h3,h4⟩)
  ·rename_i hg;split at h
   ·rename_i g hx;have hf:=BA3 (hE f _ hg) hx;obtain ⟨fn,e1,e2,e3⟩:=hf.entry;refine ⟨f,va++vargs++vb,?_,hf.calls cx ρ σ n w _ _ d σ' n' rfl hG hI hargs h⟩
    have e2':¬ fn.name = "runtime.NumGoroutine" := by simpa using e2
    have e3':¬ fn.body=none:=by intro h;simp[h] at e3
    simp[Deferred.ofValue,invoke,callFunc,e1,e2',e3']
   ·cases h
  ·cases h
 ·cases h
variable {Q:Exit->Act->World->Prop}
def BCA (hE:bB cx.P E) (hI:Inv cx ρ σ n w) (hG:Good cx.P w) {s:Nat->D} {a:Act} {o:Oper} {d:D} (hs:∀ x,Rd w (bY cx ρ σ) ρ (ev s x) (a.eval x)) (h:nv cx.P E σ s n o.op=some (d,σ',n'))
  {next:Act->World->Prop}
  (hn:∀ v w' ρ',Inv cx ρ' σ' n' w'->bZ cx ρ ρ' σ σ' w w'->Rd w' (bY cx ρ' σ') ρ' d v->next (a.put o.dst v) w'):o.wp cx.P a w next Q:=by
 have one_inv:∀ {x:Option (D×(Nat->Option bL))},one n x=some (d,σ',n')->x=some (d,σ')/\n'=n+1:=by
  intro x hx;simp only[one,aa,Prod.mk.injEq] at hx;obtain ⟨y,rfl,rfl,rfl,rfl⟩:=hx;simp
 unfold nv at h;split at h
 ·rename_i e ho;replace h:=one_inv h;obtain ⟨h,rfl⟩:=h;simp only[Option.bind_eq_some_iff,aa,Prod.mk.injEq] at h;obtain ⟨z,hz,b,hb,rfl,rfl⟩:=h;obtain ⟨ρ',h1,h2,h3,h4⟩:=VH hI (al n) (dO.vs (R:=Rd w (bY cx ρ σ) ρ) (g:=λv=>.p (.v v)) (λv=>.p _ _ (.v v)) z.cells) hb e;unfold Oper.wp;have he:(execOp a.eval o).run cx.P w = .ok (.value (.pointer (some ⟨w.heap.size,0,none⟩))) (w.alloc (.cells z.cells e)):=by
   simp only[execOp,ho,Instr.alloc,Sem.run_bind,run_zero? w hz,Result.andThen_ok,newVar,h1,Sem.run_pure]
  rw[he];exact hn _ _ ρ' h2 h3 h4
 ·rename_i e x ho;replace h:=one_inv h;obtain ⟨h,rfl⟩:=h;simp only[aa,Prod.mk.injEq] at h;obtain ⟨b,hb,rfl,rfl⟩:=h;have hne:(ev s x).cells≠[]:=λe=>by rw[e] at hb;simp[uW] at hb
  obtain ⟨ρ',h1,h2,h3,h4⟩:=VH hI (al n) ((hs x).cells hne) hb e;unfold Oper.wp;have he:(execOp a.eval o).run cx.P w = .ok (.value (.pointer (some ⟨w.heap.size,0,none⟩))) (w.alloc (.cells (a.eval x).cells e)):=by
   simp only[execOp,ho,Instr.box,Sem.run_bind,Result.andThen_ok,newVar,h1,Sem.run_pure]
  rw[he];exact hn _ _ ρ' h2 h3 h4
 ·rename_i t x y ho;replace h:=one_inv h;obtain ⟨h,rfl⟩:=h;simp only[aa,Prod.mk.injEq] at h;obtain ⟨σ'',hst,rfl,rfl⟩:=h;obtain ⟨w',h1,h2,h3⟩:=AA4 hI (hs x) (hs y) hst;unfold Oper.wp;have he:(execOp a.eval o).run cx.P w = .ok .skip w':=by
   simp only[execOp,ho,Sem.run_bind,h1,Result.andThen_ok,Sem.run_pure]
  rw[he];exact hn undef w' ρ (h2.grow (Below.refl _ _) (by omega)) h3 (.p _ _ (.v _))
 ·rename_i t x ho;split at h
  ·rename_i r hr;replace h:=one_inv h;obtain ⟨h,rfl⟩:=h;cases h;obtain ⟨v,w',ρ',h1,h2,h3,h4⟩:=BB1 hI (al n) (hs x) hr;have he:(execOp a.eval o).run cx.P w = .ok (.value v) w':=by simp[execOp,ho,h1]
   unfold Oper.wp;rw[he];exact hn v w' ρ' h2 h3 h4
  replace h:=one_inv h;obtain ⟨h,rfl⟩:=h;unfold ASZ at h;split at h
  ·rename_i sx hu hx;cases h;have hx':=hs x;rw[hx] at hx';have hval:a.eval x = .string sx:=by
    generalize a.eval x=q at hx' ⊢;cases hx' with
    | p _ _ h=>cases h;rfl
   have hbel:Below w.heap.size w (w.alloc (.stringIter sx 0)):=(Below.refl _ _).alloc (al _) _;obtain ⟨h1,h2⟩:=hI.oT (al n) ⟨w.heap.size,0,0,0,1⟩ (.mL sx 0) hbel (λ_=>⟨al _,by show w.heap.size<(w.heap.push _).size;simp⟩) ⟨λ_=>⟨.stringIter sx 0,by show (w.heap.push _)[w.heap.size]? = _;simp,.mL sx 0⟩,λh=>by simp at h⟩;unfold Oper.wp;have he:(execOp a.eval o).run cx.P w = .ok (.value (.pointer (some ⟨w.heap.size,0,none⟩))) (w.alloc (.stringIter sx 0)):=by
    simp[execOp,ho,Instr.range,run_underlying hu,hval]
   rw[he];refine hn _ _ _ h1 h2 ?_;exact .it n ⟨w.heap.size,0,0,0,1⟩ (by simp)
  ·cases h
 ·rename_i t r ho;have key:∀ rv:Option Value,rv=r.map a.eval->(∀ v,rv=some v->(∃ kt et,cx.P.underlying t=some (.map kt et))/\∃ j q,v = .int j q)->(d,σ',n')=(.map n,cJ σ n (some (.map false [])),n+1)->o.wp cx.P a w next Q:=by
   intro rv hrv hr e;cases e;obtain ⟨v,w',ρ',h1,h2,h3,h4⟩:=BB0 hI (al n) (t:=t) hr;have he:(execOp a.eval o).run cx.P w = .ok (.value v) w':=by
    subst hrv;simp[execOp,ho,h1]
   unfold Oper.wp;rw[he];exact hn v w' ρ' h2 h3 h4
  split at h
  ·replace h:=one_inv h;simp_all
  ·rename_i r;split at h
   ·rename_i j q kt et hev hu;replace h:=one_inv h;obtain ⟨h,rfl⟩:=h;cases h;have hv:=hs r;rw[hev] at hv;refine key (some (a.eval r)) rfl (λv e=>⟨⟨kt,et,hu⟩,j,q,?_⟩) rfl;cases e;generalize a.eval r=u at hv;cases hv with
    | p _ _ hv=>cases hv;rfl
   ·cases h
 ·rename_i t l c ho;replace h:=one_inv h;obtain ⟨h,rfl⟩:=h;obtain ⟨v,w',ρ',h1,h2,h3,h4⟩:=BBV hI (al n) (hs l) (hs c) h;have he:(execOp a.eval o).run cx.P w = .ok (.value v) w':=by simp[execOp,ho,h1]
  unfold Oper.wp;rw[he];exact hn v w' ρ' h2 h3 h4
 ·rename_i t m i v ho;replace h:=one_inv h;obtain ⟨h,rfl⟩:=h;simp only[aa,Prod.mk.injEq] at h;obtain ⟨σ'',hst,rfl,rfl⟩:=h;obtain ⟨w',h1,h2,h3⟩:=BIY hI (hs m) (hs i) (hs v) hst;have he:(execOp a.eval o).run cx.P w = .ok .skip w':=by simp[execOp,ho,h1]
  unfold Oper.wp;rw[he];exact hn undef w' ρ (h2.grow (Below.refl _ _) (by omega)) h3 (.p _ _ (.v _))
 ·rename_i it ho;replace h:=one_inv h;obtain ⟨h,rfl⟩:=h;simp only[aa,Prod.mk.injEq] at h;obtain ⟨d',hd',rfl,rfl⟩:=h;obtain ⟨v,h1,h2⟩:=BHS hI (hs it) hd';have he:(execOp a.eval o).run cx.P w = .ok (.value v) w:=by simp[execOp,ho,h1]
  unfold Oper.wp;rw[he];exact hn v w ρ (hI.grow (Below.refl _ _) (by omega)) (bZ.refl _ _ _ _) h2
 ·rename_i it isString ho;replace h:=one_inv h;obtain ⟨h,rfl⟩:=h;unfold Z7 at h;split at h
  ·rename_i k hit;have hit':=hs it;rw[hit] at hit';split at h
   ·rename_i sx pos hk;obtain ⟨l,hl,hval⟩:∃ l,ρ k=some l/\a.eval it = .pointer (some ⟨l.bV,0,none⟩):=by
     generalize a.eval it=q at hit' ⊢;cases hit' with
     | it _ l hl=>exact ⟨l,hl,rfl⟩
    obtain ⟨l',hl',hL,ob,hob,hb⟩:=hI.loc hk (λ_ _ e=>by cases e);rw[hl] at hl';cases hl';cases hb with
    | rows _ _ _ hr=>simp[fJ] at hr
    | mL _ _ =>
    have hlt:l.bV<w.heap.size:=((hI.new k l hl).2 hL).1;split at h
    ·rename_i hpos;cases h
     let w':World:={ w with heap:=w.heap.setIfInBounds l.bV (.stringIter sx (pos+(Utf8.decode sx pos).2)) }
     have he:(execOp a.eval o).run cx.P w = .ok (.value (.tuple #[.bool true,.int .i64 pos,.int .i32 (Utf8.decode sx pos).1])) w':=by
      simp[execOp,ho,Instr.next,hval,getObj,setObj,Sem.run,hob,hpos,goInt,w']
     obtain ⟨h1,h2⟩:=hI.AF0 (n':=n+1) (by omega) hk hl hL rfl (.stringIter sx (pos+(Utf8.decode sx pos).2)) (.mL sx (pos+(Utf8.decode sx pos).2)) (w':=w') rfl rfl rfl (by simp[w']) (by simp[w',hlt]) (λb hne=>by simp[w',Array.getElem?_setIfInBounds_ne (Ne.symm hne)]) (NW hob (λ_ _ _ e=>by cases e)) (.mL _ _);unfold Oper.wp;rw[he];exact hn _ _ _ h1 h2 (.p _ _ (.v _))
    ·rename_i hpos;cases h;have he:(execOp a.eval o).run cx.P w = .ok (.value (.tuple #[.bool false])) w:=by
      simp[execOp,ho,Instr.next,hval,getObj,Sem.run,hob,hpos]
     unfold Oper.wp;rw[he];exact hn _ _ _ (hI.grow (Below.refl _ _) (by omega)) (bZ.refl _ _ _ _) (.p _ _ (.v _))
   ·cases h
  ·cases h
 ·rename_i c ho;split at h
  ·rename_i x y t u hc ha hat;replace h:=one_inv h;obtain ⟨h,rfl⟩:=h;have ex:c.args = #[x,y]:=by rw[<-Array.toList_inj];exact ha
   have et:c.argTypes = #[t,u]:=by rw[<-Array.toList_inj];exact hat
   obtain ⟨v,w',ρ',h1,h2,h3,h4⟩:=APK (ty:=o.type) hI (al n) (hs x) (hs y) h;have he:(execOp a.eval o).run cx.P w = .ok (.value v) w':=by
    simp[execOp,ho,resolve,hc,ex,et,invoke,builtin,h1]
   unfold Oper.wp;rw[he];exact hn v w' ρ' h2 h3 h4
  ·rename_i f hc;unfold AIE at h;split at h
   ·rename_i r hcf;cases h;obtain ⟨k,as,h1,h2⟩:=AZJ hE hI hG (hs f) (evs hs c.args) hcf;unfold Oper.wp;have he:(execOp a.eval o).run cx.P w = .ok (.enter k as) w:=by
     simp only[execOp,ho,resolve,hc];exact h1
    rw[he];refine h2.mono ?_;rintro e w' ⟨v,ρ',rfl,h3,h4,h5⟩;exact hn v w' ρ' h3 h4 h5
   ·simp only[aa,Prod.mk.injEq] at h;obtain ⟨d',hd,rfl,rfl,rfl⟩:=h;rcases AIF hE hI hG (hs f) (evs hs c.args) hd with ⟨k,as,h1,h2⟩|⟨v,h1,h2⟩
    ·unfold Oper.wp;have he:(execOp a.eval o).run cx.P w = .ok (.enter k as) w:=by
      simp only[execOp,ho,resolve,hc];exact h1
     rw[he];refine h2.mono ?_;rintro e w' ⟨v,rfl,h3,h4⟩;exact hn v w' ρ (hI.grow h4 (al _)) (bZ.pV h4) h3
    ·unfold Oper.wp;have he:(execOp a.eval o).run cx.P w = .ok (.value v) w:=by
      simp only[execOp,ho,resolve,hc];exact h1
     rw[he];exact hn v w ρ hI (bZ.refl _ _ _ _) h2
  ·cases h
 ·cases h
end
def iY (ops:Array Oper) (s:Nat->D) (o:Oper):Option Bool :=
 match o.guard with
 | none=>some true
 | some (j,want) =>
  match (ops[j]?).bind (·.dst) with
  | none=>some false
  | some t =>
   match s t with
   | .p (.v (.bool b))=>some (b == want)
   | .p (.v (.tuple _))=>some false
   | .cond g (.p (.v (.bool b)))=>some (g&&(b == want))
   | _=>none
def strip (c:Bool) (d:D):D :=
 match d with
 | .cond g d'=>if U2 c g=true then d' else d
 | d=>d
def cN (c:Bool) (s:Nat->D):Nat->D:=λi=>strip c (s i)
def iU (P:Program) (E:Env) (ops:Array Oper) (n:Nat) (σ:Nat->Option bL) (s:Nat->D) (o:Oper):Option D :=
 match iY ops s o with
 | none=>none
 | some false=>some (.p (.v undef))
 | some true=>qv P E n σ s (cN true s) true o.op
def fC (E:Env) (op:Op):Bool :=
 match op with
 | .makeSlice t _ _=>E.still t
 | .buildSlice .. | .move _ | .assign _ | .pick .. | .build .. | .load .. | .binOp .. | .unOp .. | .convert .. | .makeFunc .. | .slice .. | .fieldAddr .. | .field .. | .indexAddr .. | .index .. | .extract .. | .lookup .. | .nilCheck .. => true
 | .call c=>match c.callee with
  | .builtin .len=>true
  | .builtin .min=>true
  | .builtin .max=>true
  | .value (.func f)=>E.BBI f
  | .value _=>!(E.marked 1000000000||E.marked (4000000000+c.argTypes.getD 0 0))
  | _=>false
 | _=>false
def wQ (nt:Nat) (st:St) (dst:Option Tmp) (d:D) (σ':Nat->Option bL) (n':Nat):Option St :=
 match dst with
 | none=>some ⟨st.s,σ',n'⟩
 | some t=>if t<nt then some ⟨cJ st.s t d,σ',n'⟩ else none
def gK (P:Program) (E:Env) (nt:Nat) (ops:Array Oper) (o:Oper) (st:St):Option St :=
 if fC E o.op=true then
  match iU P E ops st.n st.σ st.s o with
  | some d=>wQ nt st o.dst d st.σ st.n
  | none=>none
 else
  match iY ops st.s o with
  | some true =>
   match nv P E st.σ (cN true st.s) st.n o.op with
   | some (d,σ',n')=>wQ nt st o.dst d σ' n'
   | none=>none
  | some false=>wQ nt st o.dst (.p (.v undef)) st.σ st.n
  | none=>none
section
variable {cx : Cx} {nt : Nat} {ρ : Nat -> Option Loc} {st st' : St} {a : Act} {w : World} {ops : Array Oper}
def XN {own:Nat->Prop} {d:D} {v:Value} (h:Rd w own ρ d v):Rd w own ρ (strip true d) v:=by
 unfold strip;split
 ·split
  ·rename_i hg;subst hg;cases h with
   | tM _ _ h=>exact h
  ·exact h
 ·exact h
def Rel.evS (h:Rel cx nt ρ st a w) (x:Operand):Rd w (bY cx ρ st.σ) ρ (ev (cN true st.s) x) (a.eval x):=by
 cases x with
 | tmp t=>exact XN (h.uD t)
 | const v=>exact .p _ _ (.v v)
 | global g=>exact .p _ _ (.v _)
 | func f=>exact .p _ _ (.fn f [] [] #[] #[] rfl rfl (λi hi=>by simp at hi) (λi hi=>by simp at hi))
def Rel.ev0 (h:Rel cx nt ρ st a w) (x:Operand):Rd w (bY cx ρ st.σ) ρ (ev st.s x) (a.eval x):=by
 cases x with
 | tmp t=>exact h.uD t
 | const v=>exact .p _ _ (.v v)
 | global g=>exact .p _ _ (.v _)
 | func f=>exact .p _ _ (.fn f [] [] #[] #[] rfl rfl (λi hi=>by simp at hi) (λi hi=>by simp at hi))
def fB (h:Rel cx nt ρ st a w) {o:Oper} {c:Bool} (hc:iY ops st.s o=some c):Region.wanted o (yielded ops a.tmps)=c:=by
 unfold iY at hc;unfold Region.wanted;split at hc
 ·simp_all
 ·rename_i j want hg;simp only[hg];split at hc
  ·rename_i hn;cases hc;simp[yielded,hn]
  ·rename_i t ht;have hst:=h.uD t;have hy:yielded ops a.tmps j=(match a.tmps.getD t undef with | .bool b=>some b|_=>none):=by
    unfold yielded;simp only[ht,Option.bind_some,Array.getD_eq_getD_getElem?];cases hq:a.tmps[t]? with
    | none=>rfl
    | some v=>cases v<;>rfl
   rw[hy];split at hc
   ·rename_i b hs;cases hc;rw[hs] at hst;generalize a.tmps.getD t undef=u at *;cases hst with
    | p _ _ hst =>
    cases hst;simp
   ·rename_i vs hs;cases hc;rw[hs] at hst;generalize a.tmps.getD t undef=u at *;cases hst with
    | p _ _ hst =>
    cases hst;simp
   ·rename_i g b hs;cases hc;rw[hs] at hst;generalize a.tmps.getD t undef=u at *;cases hst with
    | tM _ _ hst =>
     cases hst with
     | p _ _ hst =>
     cases hst;simp
    | EB=>simp[undef]
   ·cases hc
variable {σ':Nat->Option bL}{n':Nat}
def fR (h:Rel cx nt ρ st a w) {dst:Option Tmp} {d:D} (hp:wQ nt st dst d σ' n'=some st') {ρ':Nat->Option Loc} {w':World} (hi:Inv cx ρ' σ' n' w') (hk:bZ cx ρ ρ' st.σ σ' w w')
  {v:Value} (hd:Rd w' (bY cx ρ' σ') ρ' d v):Rel cx nt ρ' st' (a.put dst v) w':=by
 unfold wQ at hp;split at hp
 ·cases hp;exact h.skip hi hk v
 ·split at hp
  ·rename_i ht;cases hp;exact h.put hi hk ht hd
  ·cases hp
variable {E:Env}{Q:Exit->Act->World->Prop}
def KF (hE:bB cx.P E) (h:Rel cx nt ρ st a w) {o:Oper} (hs:gK cx.P E nt ops o st=some st') {K:Act->World->Prop}
  (hK:∀ ρ' a' w',Rel cx nt ρ' st' a' w'->K a' w'):if Region.wanted o (yielded ops a.tmps) then o.wp cx.P a w K Q else K (a.put o.dst undef) w:=by
 unfold gK at hs;split at hs
 ·split at hs
  ·rename_i d hq;unfold iU at hq;split at hq
   ·cases hq
   ·rename_i hc;rw[fB h hc];cases hq;exact hK ρ _ w (fR h hs h.inv (bZ.refl _ _ _ _) (.p _ _ (.v _)))
   ·rename_i hc;rw[fB h hc];refine BLP hE h.inv h.yB h.ev0 (h.evS) hq λv w' hb hv=>hK ρ _ w' ?_;exact fR h hs (h.inv.grow hb (al _)) (bZ.pV hb) hv
  ·cases hs
 ·split at hs
  ·rename_i hc;rw[fB h hc];split at hs
   ·rename_i d σ' n' hd;refine BCA hE h.inv h.yB h.evS hd λv w' ρ' hi hk hv=>hK ρ' _ w' (fR h hs hi hk hv)
   ·cases hs
  ·rename_i hc;rw[fB h hc];exact hK ρ _ w (fR h hs h.inv (bZ.refl _ _ _ _) (.p _ _ (.v _)))
  ·cases hs
end
end Go.Pv
