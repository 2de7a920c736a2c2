/-
  The pure evaluator, part l: one operation of a region.
-/
import Derived.Test.YtjledgajjgkbhaaGreatDoorVapwr
set_option linter.defProp false
set_option linter.unusedSimpArgs false
namespace Go.Pv
open Go Go.RowKit
def AJP (P:Program) (σ:Nat→Option bB) (k:Nat) (t:TypeId) (d:D):Option (D×(Nat→Option bB)) :=
 match P.underlying t,d with
 | some .string,.p (.v (.string s))=>some (.it k,bY σ k (some (.kT s 0)))
 | _,_=>none
def TI (σ:Nat→Option bB) (isString:Bool) (d:D):Option (D×(Nat→Option bB)) :=
 match isString,d with
 | true,.it k =>
  match σ k with
  | some (.kT s pos) =>
   if pos<s.size then some (.p (.v (.tuple #[.bool true,.int .i64 pos,.int .i32 (Utf8.decode s pos).1])),bY σ k (some (.kT s (pos+(Utf8.decode s pos).2))))
   else some (.p (.v (.tuple #[.bool false])),σ)
  | _=>none
 | _,_=>none
def kQ (E:Env) (σ:Nat→Option bB) (k:Nat) (c:D) (args:List D):Option (D×(Nat→Option bB)×Nat) :=
 match jW c with
 | some (f,a,b) =>
  match E f with
  | some (.fresh g) =>
   match gZ (a++args++b) with
   | some ts=>match g ts with
    | some rows=>match rows with
     | []=>some (.p (.sl false []),σ,k+1)
     | r::rows=>some (.own k,bY σ k (some (.arr false r.length (r::rows))),k+1)
    | none=>none
   | none=>match (a++args++b).mapM (iA σ 4) with
    | some ts=>match g ts with
     | some (r::rows)=>match (r::rows).all fun r=>r.all T.flat with
      | true=>some (.own k,bY σ k (some (.arr false r.length (r::rows))),k+1)
      | false=>none
     | _=>none
    | none=>none
  | some (.N8 g)=>match (a++args++b).mapM (iA σ 4) with
   | some ts=>match g ts with
    | some []=>some (.p (.sl true []),σ,k+1)
    | some (r::rows)=>match (r::rows).all fun r=>r.all T.flat with
     | true=>some (.own k,bY σ k (some (.arr false r.length (r::rows))),k+1)
     | false=>none
    | none=>none
   | none=>none
  | some (.heap g)=>g (a++args++b) σ k
  | some (.perm z g)=>ABJ z g (a++args++b) σ k
  | some (.grow z g)=>mP z g (a++args++b) σ k
  | some (.dup z y)=>CG z y (a++args++b) σ k
  | some (.room z y)=>ABL z y (a++args++b) σ k
  | some (.A51 g)=>ABI g (a++args++b) σ k
  | some (.A9F _ g)=>ABG f g (a++args++b) σ k
  | some (.BCS g)=>ABK g (a++args++b) σ k
  | some (.BAX g)=>ABH g (a++args++b) σ k
  | some (.cpy o s zs g)=>CF o s zs g (a++args++b) σ σ k
  | some (.part c g)=>match gZ (a++args++b) with
   | some ts=>match g ts with
    | some (.agg cs)=>match cs[c]? with
     | some (.sl _ (r::rows))=>some (.agg ((cs.map D.p).set c (.own k)),bY σ k (some (.arr false r.length (r::rows))),k+1)
     | _=>none
    | _=>none
   | none=>none
  | _=>none
 | none=>none
def AAK (E:Env) (σ:Nat→Option bB) (k:Nat) (c:D) (args:List D):Option (D×(Nat→Option bB)×Nat) :=
 match kQ E σ k c args with
 | some r=>some r
 | none=>(p9 E σ k c args).map fun d=>(d,σ,k)
def one (k:Nat) (x:Option (D×(Nat→Option bB))):Option (D×(Nat→Option bB)×Nat):=x.map fun x=>(x.1,x.2,k+1)
def nv (P:Program) (E:Env) (σ:Nat→Option bB) (s:Nat→D) (k:Nat) (op:Op):Option (D×(Nat→Option bB)×Nat) :=
 match op with
 | .alloc e=>one k ((tz? P e).bind fun z=>(sL (z.cells.toList.map fun v=>.p (.v v))).map fun b=>(.ptr k 0 0,bY σ k (some b)))
 | .box _ x=>one k ((sL (ev s x).cells).map fun b=>(.ptr k 0 0,bY σ k (some b)))
 | .store t a v=>one k ((iD P σ t (ev s a) (ev s v)).map fun σ'=>(.p (.v undef),σ'))
 | .range t x=>match AMF P σ k t (ev s x) with
  | some r=>one k (some r)
  | none=>one k (AJP P σ k t (ev s x))
 | .makeMap t r=>match r with
  | none=>one k (some (.map k,bY σ k (some (.map false []))))
  | some r=>match ev s r,P.underlying t with
   | .p (.v (.int _ _)),some (.map _ _)=>one k (some (.map k,bY σ k (some (.map false []))))
   | _,_=>none
 | .makeSlice t l c=>one k (TB P σ k t (ev s l) (ev s c))
 | .buildSlice t len parts=>match BE σ (parts.toList.map fun x=>(x.1,ev s x.2)) with
  | some (ps,σ1)=>match rK P t len ps with
   | some (.p (.sl true (r::rows)))=>one k (some (.own k,bY σ1 k (some (.arr false r.length (r::rows)))))
   | _=>none
  | none=>none
 | .mapUpdate t m i v=>one k ((ADK P σ t (ev s m) (ev s i) (ev s v)).map fun σ'=>(.p (.v undef),σ'))
 | .insert t m i v=>one k ((ADK P σ t (ev s m) (ev s i) (ev s v)).map fun σ'=>(.p (.v undef),σ'))
 | .mapEntry t m i=>one k (AMB P σ t (ev s m) (ev s i))
 | .entryStore _ m i v=>one k ((AMG σ (ev s m) (ev s i) (ev s v)).map fun σ'=>(.p (.v undef),σ'))
 | .entry it=>one k ((AHB σ (ev s it)).map fun d=>(d,σ))
 | .next it isString=>one k (TI σ isString (ev s it))
 | .call c =>
  match c.callee,c.args.toList,c.argTypes.toList with
  | .builtin .append,[x,y],[t,u]=>one k (jB P σ k t u (ev s x) (ev s y))
  | .value f,as,_=>AAK E σ k (ev s f) (as.map (ev s))
  | .builtin .copy,[x,y],[t,_]=>one k (R5 P σ t (ev s x) (ev s y))
  | _,_,_=>none
 | _=>none
section
variable {cx : Cx} {ρ : Nat → Option Loc} {σ : Nat → Option bB} {n : Nat} {w : World}
theorem APD {E:Env} (hE:aT cx.P E) (hI:Inv cx ρ σ n w) (hG:Good cx.P w) {c:D} {x:Value} {args:List D} {vargs:Array Value} {d:D} {σ':Nat→Option bB} {n':Nat} (hc:Rd w (bL cx ρ σ) ρ c x) (ha:cZ (Rd w (bL cx ρ σ) ρ) args vargs)
  (h:kQ E σ n c args=some (d,σ',n')):∃ f as,(do let d ←Deferred.ofValue x vargs;invoke d.target d.args:Sem Next).run cx.P w = .ok (.enter f as) w ∧
   Calls cx.P f as w (fun e w'=>∃ v ρ',e = .returned v∧Inv cx ρ' σ' n' w'∧bO cx ρ ρ' σ σ' w w'∧Rd w' (bL cx ρ' σ') ρ' d v):=by
 unfold kQ at h
 split at h
 ·rename_i f a b hcal
  obtain ⟨va,vb,rfl,h1,h2⟩:=HB hc hcal
  have hargs:cZ (Rd w (bL cx ρ σ) ρ) (a++args++b) (va++vargs++vb):=(h1.append ha).append h2
  split at h
  ·rename_i g hg
   have hf:e6 cx.P f g:=hE f _ hg
   obtain ⟨fn,e1,e2,e3⟩:=hf.entry
   refine ⟨f,va++vargs++vb,?_,?_⟩
   ·have e2':¬ fn.name = "runtime.NumGoroutine" := by simpa using e2
    have e3':¬ fn.body=none:=by intro h;simp[h] at e3
    simp[Deferred.ofValue,invoke,callFunc,e1,e2',e3']
   ·split at h
    ·rename_i ts hts
     split at h
     ·rename_i rows hr
      refine (hf.calls w (bL cx ρ σ) ts _ rows hG (fun b hb=>bL.lt hI hb) (uI hargs hts) hr).mono ?_
      rintro e w' ⟨v,rfl,hb,h3,h4⟩
      split at h
      ·rename_i he
       cases h
       exact ⟨v,ρ,rfl,hI.grow hb (by omega),bO.gV hb,.p _ _ (h3 rfl)⟩
      ·rename_i r0 jL
       generalize hrr:r0::jL=rows at *
       have hne:rows≠[]:=by rw[←hrr];simp
       cases h
       obtain ⟨bJ,sz,C,ty,cc,rfl,hC,hlt,ho,hbx⟩:=h4 hne
       have hpos:0<rows.length:=List.length_pos_iff.2 hne
       have hlen:rows.length≤C∧r0.length=sz:=by
        cases hbx with
        | rows _ rs c hr hz hb=>cases hr;exact ⟨by simpa using hb.len,by simpa using hb.width (r0.map .p) (by rw[←hrr];simp[aU])⟩
       obtain ⟨hlen,rfl⟩:=hlen
       obtain ⟨g1,g2⟩:=hI.lW (Nat.le_refl n) ⟨bJ,r0.length,C,ty,rows.length⟩ (.arr false r0.length rows) hb (fun _=>⟨hlt,(Array.getElem?_eq_some_iff.1 ho).1⟩) ⟨fun _=>⟨_,ho,hbx.mono (fun _ _ _=>rfl) (Nat.le_refl _) (fun b _ hn hc=>hn (by
        rcases hc with hc|⟨_,rfl⟩
        ·exact .inl hc
        ·exact .inr rfl)) (fun k l hk=>by cases hk)⟩,fun h=>by have:rows.length+C=0:=h;omega⟩
       refine ⟨_,_,rfl,g1,g2,?_⟩
       exact .own n ⟨bJ,r0.length,C,ty,rows.length⟩ (by simp) (by show 0<rows.length+C;omega) hlen hC
     ·cases h
    ·split at h
     ·rename_i ts hts
      split at h
      ·rename_i r0 jL hr
       split at h
       ·rename_i hfl
        have hts':=EF (fun hd ht=>CE hI 4 hd ht) hargs hts
        refine (hf.calls w cx.own ts _ (r0::jL) hG (fun b hb=>by have:=hI.jY b hb;have:=hI.below.size;omega) hts' hr).mono ?_
        rintro e w' ⟨v,rfl,hb,h3,h4⟩
        generalize hrr:r0::jL=rows at *
        have hne:rows≠[]:=by rw[←hrr];simp
        cases h
        obtain ⟨bJ,sz,C,ty,cc,rfl,hC,hlt,ho,hbx⟩:=h4 hne
        have hpos:0<rows.length:=List.length_pos_iff.2 hne
        have hlen:rows.length≤C∧r0.length=sz:=by
         cases hbx with
         | rows _ rs c hr hz hb=>cases hr;exact ⟨by simpa using hb.len,by simpa using hb.width (r0.map .p) (by rw[←hrr];simp[aU])⟩
        obtain ⟨hlen,rfl⟩:=hlen
        have hbx':dV w' (fun b=>bL cx ρ σ b∨(0<rows.length+C∧b=bJ)) (bY ρ n (some ⟨bJ,r0.length,C,ty,rows.length⟩)) ⟨bJ,r0.length,C,ty,rows.length⟩ (.cells cc ty (0,0)) (.arr false r0.length rows):=by
         cases hbx with
         | rows _ rs c hr hz hb =>
          cases hr
          refine .rows (l:=⟨bJ,r0.length,C,ty,rows.length⟩) _ _ cc rfl hz ⟨hb.size,hb.pos,hb.small,hb.len,hb.VU,hb.width,fun i j hi hj=>?_,hb.one⟩
          obtain ⟨u,u1,u2⟩:=hb.cell i j hi hj
          refine ⟨u,u1,?_⟩
          have hi':i<rows.length:=by simpa using hi
          have hj':j<rows[i].length:=by simpa [aU] using hj
          have hx:(aU rows)[i][j] = .p rows[i][j]:=by simp[aU]
          rw[hx] at u2 ⊢
          cases u2 with
          | p _ _ u2 =>
          exact .p _ _ (u2.H5 (List.all_eq_true.1 (List.all_eq_true.1 hfl _ (List.getElem_mem hi')) _ (List.getElem_mem hj')))
        obtain ⟨g1,g2⟩:=hI.lW (Nat.le_refl n) ⟨bJ,r0.length,C,ty,rows.length⟩ (.arr false r0.length rows) hb (fun _=>⟨hlt,(Array.getElem?_eq_some_iff.1 ho).1⟩) ⟨fun _=>⟨_,ho,hbx'⟩,fun h=>by have:rows.length+C=0:=h;omega⟩
        refine ⟨_,_,rfl,g1,g2,?_⟩
        exact .own n ⟨bJ,r0.length,C,ty,rows.length⟩ (by simp) (by show 0<rows.length+C;omega) hlen hC
       ·cases h
      ·cases h
     ·cases h
  ·rename_i g hg
   have hf:ZV cx.P f g:=hE f _ hg
   obtain ⟨fn,e1,e2,e3⟩:=hf.entry
   refine ⟨f,va++vargs++vb,?_,?_⟩
   ·have e2':¬ fn.name = "runtime.NumGoroutine" := by simpa using e2
    have e3':¬ fn.body=none:=by intro h;simp[h] at e3
    simp[Deferred.ofValue,invoke,callFunc,e1,e2',e3']
   ·split at h
    ·rename_i ts hts
     split at h
     ·rename_i hr
      cases h
      have hts':=EF (fun hd ht=>CE hI 4 hd ht) hargs hts
      refine (hf.calls w cx.own ts _ [] hG (fun b hb=>by have:=hI.jY b hb;have:=hI.below.size;omega) hts' hr).mono ?_
      rintro e w' ⟨v,rfl,hb,h3,h4⟩
      refine ⟨v,ρ,rfl,hI.grow hb (by omega),bO.gV hb,.p _ _ ?_⟩
      cases h3 rfl with
      | cQ _ a cap h1 h2=>exact .cQ true a cap h1 h2
      | sl _ _ sz bJ off cap f k1 k2 k3 k4 k45 k5 k6 k7 k8=>exact .cQ true _ cap (fun _=>by have:=k3 rfl;simpa using this) (fun h=>by cases h)
     ·rename_i r0 jL hr
      split at h
      ·rename_i hfl
       have hts':=EF (fun hd ht=>CE hI 4 hd ht) hargs hts
       refine (hf.calls w cx.own ts _ (r0::jL) hG (fun b hb=>by have:=hI.jY b hb;have:=hI.below.size;omega) hts' hr).mono ?_
       rintro e w' ⟨v,rfl,hb,h3,h4⟩
       generalize hrr:r0::jL=rows at *
       have hne:rows≠[]:=by rw[←hrr];simp
       cases h
       obtain ⟨bJ,sz,C,ty,cc,rfl,hC,hlt,ho,hbx⟩:=h4 hne
       have hpos:0<rows.length:=List.length_pos_iff.2 hne
       have hlen:rows.length≤C∧r0.length=sz:=by
        cases hbx with
        | rows _ rs c hr hz hb=>cases hr;exact ⟨by simpa using hb.len,by simpa using hb.width (r0.map .p) (by rw[←hrr];simp[aU])⟩
       obtain ⟨hlen,rfl⟩:=hlen
       have hbx':dV w' (fun b=>bL cx ρ σ b∨(0<rows.length+C∧b=bJ)) (bY ρ n (some ⟨bJ,r0.length,C,ty,rows.length⟩)) ⟨bJ,r0.length,C,ty,rows.length⟩ (.cells cc ty (0,0)) (.arr false r0.length rows):=by
        cases hbx with
        | rows _ rs c hr hz hb =>
         cases hr
         refine .rows (l:=⟨bJ,r0.length,C,ty,rows.length⟩) _ _ cc rfl hz ⟨hb.size,hb.pos,hb.small,hb.len,hb.VU,hb.width,fun i j hi hj=>?_,hb.one⟩
         obtain ⟨u,u1,u2⟩:=hb.cell i j hi hj
         refine ⟨u,u1,?_⟩
         have hi':i<rows.length:=by simpa using hi
         have hj':j<rows[i].length:=by simpa [aU] using hj
         have hx:(aU rows)[i][j] = .p rows[i][j]:=by simp[aU]
         rw[hx] at u2 ⊢
         cases u2 with
         | p _ _ u2 =>
         exact .p _ _ (u2.H5 (List.all_eq_true.1 (List.all_eq_true.1 hfl _ (List.getElem_mem hi')) _ (List.getElem_mem hj')))
       obtain ⟨g1,g2⟩:=hI.lW (Nat.le_refl n) ⟨bJ,r0.length,C,ty,rows.length⟩ (.arr false r0.length rows) hb (fun _=>⟨hlt,(Array.getElem?_eq_some_iff.1 ho).1⟩) ⟨fun _=>⟨_,ho,hbx'⟩,fun h=>by have:rows.length+C=0:=h;omega⟩
       refine ⟨_,_,rfl,g1,g2,?_⟩
       exact .own n ⟨bJ,r0.length,C,ty,rows.length⟩ (by simp) (by show 0<rows.length+C;omega) hlen hC
      ·cases h
     ·cases h
    ·cases h
  ·rename_i g hg
   have hf:cY cx.P f g:=hE f _ hg
   obtain ⟨fn,e1,e2,e3⟩:=hf.entry
   refine ⟨f,va++vargs++vb,?_,hf.calls cx ρ σ n w _ _ d σ' n' rfl hG hI hargs h⟩
   have e2':¬ fn.name = "runtime.NumGoroutine" := by simpa using e2
   have e3':¬ fn.body=none:=by intro h;simp[h] at e3
   simp[Deferred.ofValue,invoke,callFunc,e1,e2',e3']
  ·rename_i z g hg
   have hf:cY cx.P f (ABJ z g):=hE f _ hg
   obtain ⟨fn,e1,e2,e3⟩:=hf.entry
   refine ⟨f,va++vargs++vb,?_,hf.calls cx ρ σ n w _ _ d σ' n' rfl hG hI hargs h⟩
   have e2':¬ fn.name = "runtime.NumGoroutine" := by simpa using e2
   have e3':¬ fn.body=none:=by intro h;simp[h] at e3
   simp[Deferred.ofValue,invoke,callFunc,e1,e2',e3']
  ·rename_i z g hg
   have hf:cY cx.P f (mP z g):=hE f _ hg
   obtain ⟨fn,e1,e2,e3⟩:=hf.entry
   refine ⟨f,va++vargs++vb,?_,hf.calls cx ρ σ n w _ _ d σ' n' rfl hG hI hargs h⟩
   have e2':¬ fn.name = "runtime.NumGoroutine" := by simpa using e2
   have e3':¬ fn.body=none:=by intro h;simp[h] at e3
   simp[Deferred.ofValue,invoke,callFunc,e1,e2',e3']
  ·rename_i z g hg
   have hf:cY cx.P f (CG z g):=hE f _ hg
   obtain ⟨fn,e1,e2,e3⟩:=hf.entry
   refine ⟨f,va++vargs++vb,?_,hf.calls cx ρ σ n w _ _ d σ' n' rfl hG hI hargs h⟩
   have e2':¬ fn.name = "runtime.NumGoroutine" := by simpa using e2
   have e3':¬ fn.body=none:=by intro h;simp[h] at e3
   simp[Deferred.ofValue,invoke,callFunc,e1,e2',e3']
  ·rename_i z g hg
   have hf:cY cx.P f (ABL z g):=hE f _ hg
   obtain ⟨fn,e1,e2,e3⟩:=hf.entry
   refine ⟨f,va++vargs++vb,?_,hf.calls cx ρ σ n w _ _ d σ' n' rfl hG hI hargs h⟩
   have e2':¬ fn.name = "runtime.NumGoroutine" := by simpa using e2
   have e3':¬ fn.body=none:=by intro h;simp[h] at e3
   simp[Deferred.ofValue,invoke,callFunc,e1,e2',e3']
  ·rename_i g hg
   have hf:cY cx.P f (ABI g):=hE f _ hg
   obtain ⟨fn,e1,e2,e3⟩:=hf.entry
   refine ⟨f,va++vargs++vb,?_,hf.calls cx ρ σ n w _ _ d σ' n' rfl hG hI hargs h⟩
   have e2':¬ fn.name = "runtime.NumGoroutine" := by simpa using e2
   have e3':¬ fn.body=none:=by intro h;simp[h] at e3
   simp[Deferred.ofValue,invoke,callFunc,e1,e2',e3']
  ·rename_i vs g hg
   have hf:cY cx.P f (ABG f g):=hE f _ hg
   obtain ⟨fn,e1,e2,e3⟩:=hf.entry
   refine ⟨f,va++vargs++vb,?_,hf.calls cx ρ σ n w _ _ d σ' n' rfl hG hI hargs h⟩
   have e2':¬ fn.name = "runtime.NumGoroutine" := by simpa using e2
   have e3':¬ fn.body=none:=by intro h;simp[h] at e3
   simp[Deferred.ofValue,invoke,callFunc,e1,e2',e3']
  ·rename_i g hg
   have hf:cY cx.P f (ABK g):=hE f _ hg
   obtain ⟨fn,e1,e2,e3⟩:=hf.entry
   refine ⟨f,va++vargs++vb,?_,hf.calls cx ρ σ n w _ _ d σ' n' rfl hG hI hargs h⟩
   have e2':¬ fn.name = "runtime.NumGoroutine" := by simpa using e2
   have e3':¬ fn.body=none:=by intro h;simp[h] at e3
   simp[Deferred.ofValue,invoke,callFunc,e1,e2',e3']
  ·rename_i g hg
   have hf:cY cx.P f (ABH g):=hE f _ hg
   obtain ⟨fn,e1,e2,e3⟩:=hf.entry
   refine ⟨f,va++vargs++vb,?_,hf.calls cx ρ σ n w _ _ d σ' n' rfl hG hI hargs h⟩
   have e2':¬ fn.name = "runtime.NumGoroutine" := by simpa using e2
   have e3':¬ fn.body=none:=by intro h;simp[h] at e3
   simp[Deferred.ofValue,invoke,callFunc,e1,e2',e3']
  ·rename_i o s zs g hg
   have hf:sQ cx.P f o s zs g:=hE f _ hg
   obtain ⟨fn,e1,e2,e3⟩:=hf.entry
   refine ⟨f,va++vargs++vb,?_,(ALJ hf hI hG hargs h).mono fun e w' ⟨v,ρ',h1,h2,h3,h4,_⟩=>⟨v,ρ',h1,h2,h3,h4⟩⟩
   have e2':¬ fn.name = "runtime.NumGoroutine" := by simpa using e2
   have e3':¬ fn.body=none:=by intro h;simp[h] at e3
   simp[Deferred.ofValue,invoke,callFunc,e1,e2',e3']
  ·rename_i c g hg
   have hf:MY cx.P f c g:=hE f _ hg
   obtain ⟨fn,e1,e2,e3⟩:=hf.entry
   split at h
   case h_2=>cases h
   rename_i ts hts
   split at h
   case h_2=>cases h
   rename_i cs hcs
   split at h
   case h_2=>cases h
   rename_i fl r0 rows hcc
   refine ⟨f,va++vargs++vb,?_,?_⟩
   ·have e2':¬ fn.name = "runtime.NumGoroutine" := by simpa using e2
    have e3':¬ fn.body=none:=by intro h;simp[h] at e3
    simp[Deferred.ofValue,invoke,callFunc,e1,e2',e3']
   cases h
   refine (hf.calls w (bL cx ρ σ) ts _ cs hG (fun b hb=>bL.lt hI hb) (uI hargs hts) hcs).mono ?_
   rintro e w' ⟨vc,rfl,hb,hvs,hx⟩
   obtain ⟨bJ,sz,C,ty,cc,hoth,hcv,hC,hlt,ho,hbx⟩:=hx fl r0 rows hcc
   have hlen:(r0::rows).length≤C∧r0.length=sz:=by
    cases hbx with
    | rows _ rs c hr hz hb=>cases hr;exact ⟨by simpa using hb.len,by simpa using hb.width (r0.map .p) (by simp[aU])⟩
   obtain ⟨hlen,rfl⟩:=hlen
   have hpos:0<(r0::rows).length:=by simp
   obtain ⟨g1,g2⟩:=hI.lW (Nat.le_refl n) ⟨bJ,r0.length,C,ty,(r0::rows).length⟩ (.arr false r0.length (r0::rows)) hb (fun _=>⟨hlt,(Array.getElem?_eq_some_iff.1 ho).1⟩) ⟨fun _=>⟨_,ho,hbx.mono (fun _ _ _=>rfl) (Nat.le_refl _) (fun b _ hn hc=>hn (by
    rcases hc with hc|⟨_,rfl⟩
    ·exact .inl hc
    ·exact .inr rfl)) (fun k l hk=>by cases hk)⟩,fun h=>by have:(r0::rows).length+C=0:=h;omega⟩
   refine ⟨_,_,rfl,g1,g2,?_⟩
   refine .agg _ vc (by simpa using hvs) fun i hi=>?_
   have hi':i<cs.length:=by simpa using hi
   by_cases e:i=c
   ·subst e
    rw[List.getElem_set_self,hcv]
    exact .own n ⟨bJ,r0.length,C,ty,(r0::rows).length⟩ (by simp) (by show 0<(r0::rows).length+C;omega) hlen hC
   ·rw[List.getElem_set_ne (fun e'=>e e'.symm),List.getElem_map]
    refine .p _ _ ((hoth i hi' e).less fun b hb=>?_)
    rcases hb with hb|⟨j,l,x,h1,h2,h3,h4⟩
    ·exact .inl (.inl hb)
    ·by_cases ej:j=n
     ·subst ej
      rw[fC] at h2
      cases h2
      exact .inr h4.symm
     ·rw[bK _ _ ej] at h1 h2
      exact .inl (.inr ⟨j,l,x,h1,h2,h3,h4⟩)
  ·cases h
 ·cases h
theorem A5O (hI:Inv cx ρ σ n w) {k:Nat} {z:Nat} {rows:List (List T)} {v:Value} (hk:σ k=some (.arr false z rows)) (hd:Rd w (bL cx ρ σ) ρ (.own k) v):Rd w (bL cx ρ (bY σ k none)) ρ (.p (.sl false rows)) v:=by
 refine .p _ _ (xH (τ:=bY (fun _=>none) k (σ k)) hI (fun b hb=>?_) (fun i x hi=>?_) (fun i x l hi hl hL hc=>?_) 1 hd (by simp[iA,hk]))
 ·rcases hb with hb|⟨i,l,x,h1,h2,h3⟩
  ·exact .inl hb
  ·by_cases e:i=k
   ·simp_all
   ·rw[bK _ _ e] at h1;exact .inr ⟨i,l,x,h1,h2,h3⟩
 ·by_cases e:i=k
  ·simp_all
  ·rw[bK _ _ e] at hi;cases hi
 ·by_cases e:i=k
  ·subst e
   replace hi:σ i=some x:=by simpa using hi
   rcases hc with hc|⟨i',l',x',h1,h2,h3,h4⟩
   ·exact hI.AWW hl hL hc
   ·by_cases e:i'=i
    ·simp_all
    ·rw[bK _ _ e] at h1
     exact e (hI.inj i' i x' x l' l h1 hi h2 hl h3 hL h4)
  ·rw[bK _ _ e] at hi;cases hi
theorem ON:∀ {ps ps':List (Nat×D)} {vps:List (Nat×Value)} {σ σ1:Nat→Option bB},Inv cx ρ σ n w→ps.length=vps.length→(∀ i (h:i<ps.length) (h':i<vps.length),ps[i].1=vps[i].1∧Rd w (bL cx ρ σ) ρ ps[i].2 vps[i].2)→BE σ ps=some (ps',σ1) →
  Inv cx ρ σ1 n w∧bO cx ρ ρ σ σ1 w w∧ps'.length=vps.length∧∀ i (h:i<ps'.length) (h':i<vps.length),ps'[i].1=vps[i].1∧Rd w (bL cx ρ σ1) ρ ps'[i].2 vps[i].2
 | [],ps',vps,σ,σ1,hI,hl,hr,h=>by
  cases h
  exact ⟨hI,bO.refl _ _ _ _,hl,fun i h=>by simp at h⟩
 | p::ps,ps',[],σ,σ1,hI,hl,hr,h=>by simp at hl
 | p::ps,ps',v::vps,σ,σ1,hI,hl,hr,h=>by
  have h0:=hr 0 (by simp) (by simp)
  have key:∀ {σ2:Nat→Option bB} {d':D},Inv cx ρ σ2 n w→bO cx ρ ρ σ σ2 w w→Rd w (bL cx ρ σ2) ρ d' v.2→(BE σ2 ps).map (fun x=>((p.1,d')::x.1,x.2))=some (ps',σ1) →
    Inv cx ρ σ1 n w∧bO cx ρ ρ σ σ1 w w∧ps'.length=(v::vps).length∧∀ i (h:i<ps'.length) (h':i<(v::vps).length),ps'[i].1=(v::vps)[i].1∧Rd w (bL cx ρ σ1) ρ ps'[i].2 (v::vps)[i].2:=by
   intro σ2 d' hI2 hk2 hd hm
   simp only[Option.map_eq_some_iff,Prod.mk.injEq] at hm
   obtain ⟨⟨ps2,σ3⟩,hg,rfl,rfl⟩:=hm
   obtain ⟨g1,g2,g3,g4⟩:=ON (vps:=vps) hI2 (by simpa using hl) (fun i h h'=>by
    have:=hr (i+1) (by simpa using h) (by simpa using h')
    exact ⟨this.1,hk2.rd this.2⟩) hg
   refine ⟨g1,hk2.trans' g2,by simpa using g3,fun i h h'=>?_⟩
   cases i with
   | zero=>exact ⟨h0.1,g2.rd hd⟩
   | succ i=>simpa using g4 i (by simpa using h) (by simpa using h')
  unfold BE at h
  split at h
  ·simp_all
  ·rename_i i k r e
   cases e
   split at h
   ·rename_i z rows hk
    obtain ⟨d1,d2⟩:=hI.drop k (fun x hx=>by rw[hk] at hx;cases hx;rfl)
    exact key d1 d2 (A5O hI hk h0.2) h
   ·cases h
  ·rename_i i d r _ e
   cases e
   exact key hI (bO.refl _ _ _ _) h0.2 h
theorem A0N {E:Env} (hE:aT cx.P E) (hI:Inv cx ρ σ n w) (hG:Good cx.P w) {s:Nat→D} {a:Act} {o:Oper} {d:D} {σ':Nat→Option bB} {n':Nat} (hs:∀ x,Rd w (bL cx ρ σ) ρ (ev s x) (a.eval x)) (h:nv cx.P E σ s n o.op=some (d,σ',n'))
  {next:Act→World→Prop} {Q:Exit→Act→World→Prop}
  (hn:∀ v w' ρ',Inv cx ρ' σ' n' w'→bO cx ρ ρ' σ σ' w w'→Rd w' (bL cx ρ' σ') ρ' d v→next (a.put o.dst v) w'):o.wp cx.P a w next Q:=by
 have one_inv:∀ {x:Option (D×(Nat→Option bB))},one n x=some (d,σ',n')→x=some (d,σ')∧n'=n+1:=by
  intro x hx
  simp only[one,Option.map_eq_some_iff,Prod.mk.injEq] at hx
  obtain ⟨y,rfl,rfl,rfl,rfl⟩:=hx
  simp
 unfold nv at h
 split at h
 ·rename_i e ho
  replace h:=one_inv h
  obtain ⟨h,rfl⟩:=h
  simp only[Option.bind_eq_some_iff,Option.map_eq_some_iff,Prod.mk.injEq] at h
  obtain ⟨z,hz,b,hb,rfl,rfl⟩:=h
  obtain ⟨ρ',h1,h2,h3,h4⟩:=O0 hI (Nat.le_refl n) (cZ.vs (R:=Rd w (bL cx ρ σ) ρ) (g:=fun v=>.p (.v v)) (fun v=>.p _ _ (.v v)) z.cells) hb e
  unfold Oper.wp
  have he:(execOp a.eval o).run cx.P w = .ok (.value (.pointer (some ⟨w.heap.size,0,none⟩))) (w.alloc (.cells z.cells e)):=by
   simp only[execOp,ho,Instr.alloc,Sem.run_bind,run_zero? w hz,Result.andThen_ok,newVar,h1,Sem.run_pure]
  rw[he]
  exact hn _ _ ρ' h2 h3 h4
 ·rename_i e x ho
  replace h:=one_inv h
  obtain ⟨h,rfl⟩:=h
  simp only[Option.map_eq_some_iff,Prod.mk.injEq] at h
  obtain ⟨b,hb,rfl,rfl⟩:=h
  have hne:(ev s x).cells≠[]:=fun e=>by rw[e] at hb;simp[sL] at hb
  obtain ⟨ρ',h1,h2,h3,h4⟩:=O0 hI (Nat.le_refl n) ((hs x).cells hne) hb e
  unfold Oper.wp
  have he:(execOp a.eval o).run cx.P w = .ok (.value (.pointer (some ⟨w.heap.size,0,none⟩))) (w.alloc (.cells (a.eval x).cells e)):=by
   simp only[execOp,ho,Instr.box,Sem.run_bind,Result.andThen_ok,newVar,h1,Sem.run_pure]
  rw[he]
  exact hn _ _ ρ' h2 h3 h4
 ·rename_i t x y ho
  replace h:=one_inv h
  obtain ⟨h,rfl⟩:=h
  simp only[Option.map_eq_some_iff,Prod.mk.injEq] at h
  obtain ⟨σ'',hst,rfl,rfl⟩:=h
  obtain ⟨w',h1,h2,h3⟩:=T5 hI (hs x) (hs y) hst
  unfold Oper.wp
  have he:(execOp a.eval o).run cx.P w = .ok .skip w':=by
   simp only[execOp,ho,Sem.run_bind,h1,Result.andThen_ok,Sem.run_pure]
  rw[he]
  exact hn undef w' ρ (h2.grow (Below.refl _ _) (by omega)) h3 (.p _ _ (.v _))
 ·rename_i t x ho
  split at h
  ·rename_i r hr
   replace h:=one_inv h
   obtain ⟨h,rfl⟩:=h
   cases h
   obtain ⟨v,w',ρ',h1,h2,h3,h4⟩:=A0D hI (Nat.le_refl n) (hs x) hr
   have he:(execOp a.eval o).run cx.P w = .ok (.value v) w':=by simp[execOp,ho,h1]
   unfold Oper.wp
   rw[he]
   exact hn v w' ρ' h2 h3 h4
  replace h:=one_inv h
  obtain ⟨h,rfl⟩:=h
  unfold AJP at h
  split at h
  ·rename_i sx hu hx
   cases h
   have hx':=hs x
   rw[hx] at hx'
   have hval:a.eval x = .string sx:=by
    generalize a.eval x=q at hx' ⊢
    cases hx' with
    | p _ _ h=>cases h;rfl
   have hbel:Below w.heap.size w (w.alloc (.stringIter sx 0)):=(Below.refl _ _).alloc (Nat.le_refl _) _
   obtain ⟨h1,h2⟩:=hI.lW (Nat.le_refl n) ⟨w.heap.size,0,0,0,1⟩ (.kT sx 0) hbel (fun _=>⟨Nat.le_refl _,by show w.heap.size<(w.heap.push _).size;simp⟩) ⟨fun _=>⟨.stringIter sx 0,by show (w.heap.push _)[w.heap.size]? = _;simp,.kT sx 0⟩,fun h=>by simp at h⟩
   unfold Oper.wp
   have he:(execOp a.eval o).run cx.P w = .ok (.value (.pointer (some ⟨w.heap.size,0,none⟩))) (w.alloc (.stringIter sx 0)):=by
    simp[execOp,ho,Instr.range,run_underlying hu,hval]
   rw[he]
   refine hn _ _ _ h1 h2 ?_
   exact .it n ⟨w.heap.size,0,0,0,1⟩ (by simp)
  ·cases h
 ·rename_i t r ho
  have key:∀ rv:Option Value,rv=r.map a.eval→(∀ v,rv=some v→(∃ kt et,cx.P.underlying t=some (.map kt et))∧∃ j q,v = .int j q)→(d,σ',n')=(.map n,bY σ n (some (.map false [])),n+1)→o.wp cx.P a w next Q:=by
   intro rv hrv hr e
   cases e
   obtain ⟨v,w',ρ',h1,h2,h3,h4⟩:=A0C hI (Nat.le_refl n) (t:=t) hr
   have he:(execOp a.eval o).run cx.P w = .ok (.value v) w':=by
    subst hrv
    simp[execOp,ho,h1]
   unfold Oper.wp
   rw[he]
   exact hn v w' ρ' h2 h3 h4
  split at h
  ·replace h:=one_inv h
   simp_all
  ·rename_i r
   split at h
   ·rename_i j q kt et hev hu
    replace h:=one_inv h
    obtain ⟨h,rfl⟩:=h
    cases h
    have hv:=hs r
    rw[hev] at hv
    refine key (some (a.eval r)) rfl (fun v e=>⟨⟨kt,et,hu⟩,j,q,?_⟩) rfl
    cases e
    generalize a.eval r=u at hv
    cases hv with
    | p _ _ hv=>cases hv;rfl
   ·cases h
 ·rename_i t l c ho
  replace h:=one_inv h
  obtain ⟨h,rfl⟩:=h
  obtain ⟨v,w',ρ',h1,h2,h3,h4⟩:=AZ8 hI (Nat.le_refl n) (hs l) (hs c) h
  have he:(execOp a.eval o).run cx.P w = .ok (.value v) w':=by simp[execOp,ho,h1]
  unfold Oper.wp
  rw[he]
  exact hn v w' ρ' h2 h3 h4
 ·rename_i t len parts ho
  split at h
  ·rename_i ps σ1 hgv
   obtain ⟨hI1,hkp1,hpl,hpr⟩:=ON (vps:=parts.toList.map fun x=>(x.1,a.eval x.2)) hI (by simp) (fun i h1 h2=>by simp;exact hs _) hgv
   split at h
   ·rename_i r0 jL hbs
    replace h:=one_inv h
    obtain ⟨h,rfl⟩:=h
    cases h
    obtain ⟨v,ob,h1,_,h3⟩:=wW (P:=cx.P) (w:=w) (own:=bL cx ρ σ1) (ρ:=ρ) (t:=t) (len:=len) (parts:=ps) (vparts:=parts.toList.map fun x=>(x.1,a.eval x.2))
     (fun b hb=>bL.lt hI1 hb) hpl hpr hbs
    obtain ⟨us,e,z,rfl,rfl,hB⟩:=h3 _ rfl
    have hz:r0.length=z:=by have:=hB.width (r0.map .p) (by simp[aU]);simpa using this
    subst hz
    have hbel:Below w.heap.size w (w.alloc (.cells us e)):=(Below.refl _ _).alloc (Nat.le_refl _) _
    have hsm:(r0::jL).length≤2 ^ 47:=by simpa [aU] using hB.small
    obtain ⟨g1,g2⟩:=hI1.lW (Nat.le_refl n) ⟨w.heap.size,r0.length,(r0::jL).length,e,(r0::jL).length⟩ (.arr false r0.length (r0::jL)) hbel (fun _=>⟨Nat.le_refl _,by show w.heap.size<(w.heap.push _).size;simp⟩)
     ⟨fun _=>⟨.cells us e,by show (w.heap.push _)[w.heap.size]? = _;simp,(dV.rows _ _ _ rfl (fun ro z rows e=>by cases e;rfl) hB).mono (fun b _ hlt=>hbel.block b hlt) hbel.size (fun b hb hn hc=>by
      rcases hc with hc|⟨_,rfl⟩
      ·simp_all
      ·exact Nat.lt_irrefl _ hb) (fun i l' hi=>by rw[bK _ _ (fun e=>by have:=(hI1.new i l' hi).1;omega)];exact hi)⟩,fun h=>by simp at h⟩
    have e2:(parts.map fun (i,x)=>(i,a.eval x))=(parts.toList.map fun x=>(x.1,a.eval x.2)).toArray:=by cases parts;simp
    unfold Oper.wp
    simp only[execOp,ho,e2,Sem.run_bind,h1,Result.andThen_ok,Sem.run_pure]
    exact hn _ _ _ g1 (hkp1.trans' g2) (.own n ⟨w.heap.size,r0.length,(r0::jL).length,e,(r0::jL).length⟩ (by simp) (by show 0<(r0::jL).length+(r0::jL).length;simp only[List.length_cons];omega) (Nat.le_refl _) (Nat.le_trans hsm (by decide)))
   ·cases h
  ·cases h
 ·rename_i t m i v ho
  replace h:=one_inv h
  obtain ⟨h,rfl⟩:=h
  simp only[Option.map_eq_some_iff,Prod.mk.injEq] at h
  obtain ⟨σ'',hst,rfl,rfl⟩:=h
  obtain ⟨w',h1,h2,h3⟩:=AMH hI (hs m) (hs i) (hs v) hst
  have he:(execOp a.eval o).run cx.P w = .ok .skip w':=by simp[execOp,ho,h1]
  unfold Oper.wp
  rw[he]
  exact hn undef w' ρ (h2.grow (Below.refl _ _) (by omega)) h3 (.p _ _ (.v _))
 ·rename_i t m i v ho
  replace h:=one_inv h
  obtain ⟨h,rfl⟩:=h
  simp only[Option.map_eq_some_iff,Prod.mk.injEq] at h
  obtain ⟨σ'',hst,rfl,rfl⟩:=h
  obtain ⟨w',h1,h2,h3⟩:=AMH hI (hs m) (hs i) (hs v) hst
  have he:(execOp a.eval o).run cx.P w = .ok .skip w':=by simp[execOp,ho,h1]
  unfold Oper.wp
  rw[he]
  exact hn undef w' ρ (h2.grow (Below.refl _ _) (by omega)) h3 (.p _ _ (.v _))
 ·rename_i t m i ho
  replace h:=one_inv h
  obtain ⟨h,rfl⟩:=h
  obtain ⟨v,w',h1,h2,h3,h4⟩:=A0A hI (hs m) (hs i) h
  have he:(execOp a.eval o).run cx.P w = .ok (.value v) w':=by simp[execOp,ho,h1]
  unfold Oper.wp
  rw[he]
  exact hn v w' ρ (h2.grow (Below.refl _ _) (by omega)) h3 h4
 ·rename_i t m i v ho
  replace h:=one_inv h
  obtain ⟨h,rfl⟩:=h
  simp only[Option.map_eq_some_iff,Prod.mk.injEq] at h
  obtain ⟨σ'',hst,rfl,rfl⟩:=h
  obtain ⟨w',h1,h2,h3⟩:=A0E (t:=t) hI (hs m) (hs i) (hs v) hst
  have he:(execOp a.eval o).run cx.P w = .ok .skip w':=by simp[execOp,ho,h1]
  unfold Oper.wp
  rw[he]
  exact hn undef w' ρ (h2.grow (Below.refl _ _) (by omega)) h3 (.p _ _ (.v _))
 ·rename_i it ho
  replace h:=one_inv h
  obtain ⟨h,rfl⟩:=h
  simp only[Option.map_eq_some_iff,Prod.mk.injEq] at h
  obtain ⟨d',hd',rfl,rfl⟩:=h
  obtain ⟨v,h1,h2⟩:=A4U hI (hs it) hd'
  have he:(execOp a.eval o).run cx.P w = .ok (.value v) w:=by simp[execOp,ho,h1]
  unfold Oper.wp
  rw[he]
  exact hn v w ρ (hI.grow (Below.refl _ _) (by omega)) (bO.refl _ _ _ _) h2
 ·rename_i it isString ho
  replace h:=one_inv h
  obtain ⟨h,rfl⟩:=h
  unfold TI at h
  split at h
  ·rename_i k hit
   have hit':=hs it
   rw[hit] at hit'
   split at h
   ·rename_i sx pos hk
    obtain ⟨l,hl,hval⟩:∃ l,ρ k=some l∧a.eval it = .pointer (some ⟨l.bJ,0,none⟩):=by
     generalize a.eval it=q at hit' ⊢
     cases hit' with
     | it _ l hl=>exact ⟨l,hl,rfl⟩
    obtain ⟨l',hl',hL,ob,hob,hb⟩:=hI.loc hk (fun _ _ e=>by cases e)
    rw[hl] at hl';cases hl'
    cases hb with
    | rows _ _ _ hr=>simp[eC] at hr
    | kT _ _ =>
    have hlt:l.bJ<w.heap.size:=((hI.new k l hl).2 hL).1
    split at h
    ·rename_i hpos
     cases h
     let w':World:={ w with heap:=w.heap.setIfInBounds l.bJ (.stringIter sx (pos+(Utf8.decode sx pos).2)) }
     have he:(execOp a.eval o).run cx.P w = .ok (.value (.tuple #[.bool true,.int .i64 pos,.int .i32 (Utf8.decode sx pos).1])) w':=by
      simp[execOp,ho,Instr.next,hval,getObj,setObj,Sem.run,hob,hpos,goInt,w']
     obtain ⟨h1,h2⟩:=hI.QB (n':=n+1) (by omega) hk hl hL rfl (.stringIter sx (pos+(Utf8.decode sx pos).2)) (.kT sx (pos+(Utf8.decode sx pos).2)) (w':=w') rfl rfl rfl (by simp[w']) (by simp[w',hlt]) (fun b hne=>by simp[w',Array.getElem?_setIfInBounds_ne (Ne.symm hne)]) (IU hob (fun _ _ _ e=>by cases e)) (.kT _ _)
     unfold Oper.wp
     rw[he]
     exact hn _ _ _ h1 h2 (.p _ _ (.v _))
    ·rename_i hpos
     cases h
     have he:(execOp a.eval o).run cx.P w = .ok (.value (.tuple #[.bool false])) w:=by
      simp[execOp,ho,Instr.next,hval,getObj,Sem.run,hob,hpos]
     unfold Oper.wp
     rw[he]
     exact hn _ _ _ (hI.grow (Below.refl _ _) (by omega)) (bO.refl _ _ _ _) (.p _ _ (.v _))
   ·cases h
  ·cases h
 ·rename_i c ho
  split at h
  ·rename_i x y t u hc ha hat
   replace h:=one_inv h
   obtain ⟨h,rfl⟩:=h
   have ex:c.args = #[x,y]:=by rw[←Array.toList_inj];exact ha
   have et:c.argTypes = #[t,u]:=by rw[←Array.toList_inj];exact hat
   obtain ⟨v,w',ρ',h1,h2,h3,h4⟩:=AGV (ty:=o.type) hI (Nat.le_refl n) (hs x) (hs y) h
   have he:(execOp a.eval o).run cx.P w = .ok (.value v) w':=by
    simp[execOp,ho,resolve,hc,ex,et,invoke,builtin,h1]
   unfold Oper.wp
   rw[he]
   exact hn v w' ρ' h2 h3 h4
  ·rename_i f hc
   unfold AAK at h
   split at h
   ·rename_i r hcf
    cases h
    obtain ⟨k,as,h1,h2⟩:=APD hE hI hG (hs f) (evs hs c.args) hcf
    unfold Oper.wp
    have he:(execOp a.eval o).run cx.P w = .ok (.enter k as) w:=by
     simp only[execOp,ho,resolve,hc]
     exact h1
    rw[he]
    refine h2.mono ?_
    rintro e w' ⟨v,ρ',rfl,h3,h4,h5⟩
    exact hn v w' ρ' h3 h4 h5
   ·simp only[Option.map_eq_some_iff,Prod.mk.injEq] at h
    obtain ⟨d',hd,rfl,rfl,rfl⟩:=h
    rcases AAL hE hI hG (hs f) (evs hs c.args) hd with ⟨k,as,h1,h2⟩|⟨v,h1,h2⟩
    ·unfold Oper.wp
     have he:(execOp a.eval o).run cx.P w = .ok (.enter k as) w:=by
      simp only[execOp,ho,resolve,hc]
      exact h1
     rw[he]
     refine h2.mono ?_
     rintro e w' ⟨v,rfl,h3,h4⟩
     exact hn v w' ρ (hI.grow h4 (Nat.le_refl _)) (bO.gV h4) h3
    ·unfold Oper.wp
     have he:(execOp a.eval o).run cx.P w = .ok (.value v) w:=by
      simp only[execOp,ho,resolve,hc]
      exact h1
     rw[he]
     exact hn v w ρ hI (bO.refl _ _ _ _) h2
  ·rename_i x y t u hc ha hat
   replace h:=one_inv h
   obtain ⟨h,rfl⟩:=h
   have ex:c.args = #[x,y]:=by rw[←Array.toList_inj];exact ha
   have et:c.argTypes = #[t,u]:=by rw[←Array.toList_inj];exact hat
   obtain ⟨v,w',h1,h2,h3,h4⟩:=AWU (u:=u) (ty:=o.type) hI (hs x) (hs y) h
   have he:(execOp a.eval o).run cx.P w = .ok (.value v) w':=by
    simp[execOp,ho,resolve,hc,ex,et,invoke,builtin,h1]
   unfold Oper.wp
   rw[he]
   exact hn v w' ρ h2 h3 h4
  ·cases h
 ·cases h
end
def e8 (ops:Array Oper) (s:Nat→D) (o:Oper):Option Bool :=
 match o.guard with
 | none=>some true
 | some (j,want) =>
  match (ops[j]?).bind (·.dst) with
  | none=>some false
  | some t =>
   match s t with
   | .p (.v (.bool b))=>some (b == want)
   | .p (.v (.tuple _))=>some false
   | .cond g (.p (.v (.bool b)))=>some (g&&(b == want))
   | _=>none
def strip (c:Bool) (d:D):D :=
 match d with
 | .cond g d'=>if OP c g=true then d' else d
 | d=>d
def cB (c:Bool) (s:Nat→D):Nat→D:=fun i=>strip c (s i)
def gW (P:Program) (E:Env) (ops:Array Oper) (n:Nat) (σ:Nat→Option bB) (s:Nat→D) (o:Oper):Option D :=
 match e8 ops s o with
 | none=>none
 | some false=>some (.p (.v undef))
 | some true=>qv P E n σ s (cB true s) true o.op
def eG (E:Env) (op:Op):Bool :=
 match op with
 | .buildSlice t _ _=>!E.marked t
 | .makeSlice t _ _=>E.still t
 | .move _ | .assign _ | .pick .. | .build .. | .load .. | .binOp .. | .unOp .. | .convert .. | .makeFunc .. | .slice .. | .fieldAddr .. | .field .. | .indexAddr .. | .index .. | .extract .. | .lookup .. | .nilCheck .. => true
 | .call c=>match c.callee with
  | .builtin .len=>true
  | .builtin .min=>true
  | .builtin .max=>true
  | .value (.func f)=>E.AZU f
  | .value _=>!(E.marked 1000000000||E.marked (4000000000+c.argTypes.getD 0 0))
  | _=>false
 | _=>false
def q9 (nt:Nat) (st:St) (dst:Option Tmp) (d:D) (σ':Nat→Option bB) (n':Nat):Option St :=
 match dst with
 | none=>some ⟨st.s,σ',n'⟩
 | some t=>if t<nt then some ⟨bY st.s t d,σ',n'⟩ else none
def eZ (P:Program) (E:Env) (nt:Nat) (ops:Array Oper) (o:Oper) (st:St):Option St :=
 if eG E o.op=true then
  match gW P E ops st.n st.σ st.s o with
  | some d=>q9 nt st o.dst d st.σ st.n
  | none=>none
 else
  match e8 ops st.s o with
  | some true =>
   match nv P E st.σ (cB true st.s) st.n o.op with
   | some (d,σ',n')=>q9 nt st o.dst d σ' n'
   | none=>none
  | some false=>q9 nt st o.dst (.p (.v undef)) st.σ st.n
  | none=>none
section
variable {cx : Cx} {nt : Nat} {ρ : Nat → Option Loc} {st st' : St} {a : Act} {w : World} {ops : Array Oper}
theorem QM {own:Nat→Prop} {d:D} {v:Value} (h:Rd w own ρ d v):Rd w own ρ (strip true d) v:=by
 unfold strip
 split
 ·split
  ·rename_i hg
   subst hg
   cases h with
   | rL _ _ h=>exact h
  ·exact h
 ·exact h
theorem Rel.evS (h:Rel cx nt ρ st a w) (x:Operand):Rd w (bL cx ρ st.σ) ρ (ev (cB true st.s) x) (a.eval x):=by
 cases x with
 | tmp t=>exact QM (h.nD t)
 | const v=>exact .p _ _ (.v v)
 | global g=>exact .p _ _ (.v _)
 | func f=>exact .p _ _ (.fn f [] [] #[] #[] rfl rfl (fun i hi=>by simp at hi) (fun i hi=>by simp at hi))
theorem Rel.ev0 (h:Rel cx nt ρ st a w) (x:Operand):Rd w (bL cx ρ st.σ) ρ (ev st.s x) (a.eval x):=by
 cases x with
 | tmp t=>exact h.nD t
 | const v=>exact .p _ _ (.v v)
 | global g=>exact .p _ _ (.v _)
 | func f=>exact .p _ _ (.fn f [] [] #[] #[] rfl rfl (fun i hi=>by simp at hi) (fun i hi=>by simp at hi))
theorem eA (h:Rel cx nt ρ st a w) {o:Oper} {c:Bool} (hc:e8 ops st.s o=some c):Region.wanted o (yielded ops a.tmps)=c:=by
 unfold e8 at hc
 unfold Region.wanted
 split at hc
 ·simp_all
 ·rename_i j want hg
  simp only[hg]
  split at hc
  ·rename_i hn
   cases hc
   simp[yielded,hn]
  ·rename_i t ht
   have hst:=h.nD t
   have hy:yielded ops a.tmps j=(match a.tmps.getD t undef with | .bool b=>some b|_=>none):=by
    unfold yielded
    simp only[ht,Option.bind_some,Array.getD_eq_getD_getElem?]
    cases hq:a.tmps[t]? with
    | none=>rfl
    | some v=>cases v<;>rfl
   rw[hy]
   split at hc
   ·rename_i b hs
    cases hc
    rw[hs] at hst
    generalize a.tmps.getD t undef=u at *
    cases hst with
    | p _ _ hst =>
    cases hst
    simp
   ·rename_i vs hs
    cases hc
    rw[hs] at hst
    generalize a.tmps.getD t undef=u at *
    cases hst with
    | p _ _ hst =>
    cases hst
    simp
   ·rename_i g b hs
    cases hc
    rw[hs] at hst
    generalize a.tmps.getD t undef=u at *
    cases hst with
    | rL _ _ hst =>
     cases hst with
     | p _ _ hst =>
     cases hst
     simp
    | AZ=>simp[undef]
   ·cases hc
theorem eM (h:Rel cx nt ρ st a w) {dst:Option Tmp} {d:D} {σ':Nat→Option bB} {n':Nat} (hp:q9 nt st dst d σ' n'=some st') {ρ':Nat→Option Loc} {w':World} (hi:Inv cx ρ' σ' n' w') (hk:bO cx ρ ρ' st.σ σ' w w')
  {v:Value} (hd:Rd w' (bL cx ρ' σ') ρ' d v):Rel cx nt ρ' st' (a.put dst v) w':=by
 unfold q9 at hp
 split at hp
 ·cases hp;exact h.skip hi hk v
 ·split at hp
  ·rename_i ht
   cases hp
   exact h.put hi hk ht hd
  ·cases hp
theorem yT {E:Env} (hE:aT cx.P E) (h:Rel cx nt ρ st a w) {o:Oper} (hs:eZ cx.P E nt ops o st=some st') {K:Act→World→Prop} {Q:Exit→Act→World→Prop}
  (hK:∀ ρ' a' w',Rel cx nt ρ' st' a' w'→K a' w'):if Region.wanted o (yielded ops a.tmps) then o.wp cx.P a w K Q else K (a.put o.dst undef) w:=by
 unfold eZ at hs
 split at hs
 ·split at hs
  ·rename_i d hq
   unfold gW at hq
   split at hq
   ·cases hq
   ·rename_i hc
    rw[eA h hc]
    cases hq
    exact hK ρ _ w (eM h hs h.inv (bO.refl _ _ _ _) (.p _ _ (.v _)))
   ·rename_i hc
    rw[eA h hc]
    refine A8J hE h.inv h.oW h.ev0 (h.evS) hq fun v w' hb hv=>hK ρ _ w' ?_
    exact eM h hs (h.inv.grow hb (Nat.le_refl _)) (bO.gV hb) hv
  ·cases hs
 ·split at hs
  ·rename_i hc
   rw[eA h hc]
   split at hs
   ·rename_i d σ' n' hd
    refine A0N hE h.inv h.oW h.evS hd fun v w' ρ' hi hk hv=>hK ρ' _ w' (eM h hs hi hk hv)
   ·cases hs
  ·rename_i hc
   rw[eA h hc]
   exact hK ρ _ w (eM h hs h.inv (bO.refl _ _ _ _) (.p _ _ (.v _)))
  ·cases hs
end
end Go.Pv
