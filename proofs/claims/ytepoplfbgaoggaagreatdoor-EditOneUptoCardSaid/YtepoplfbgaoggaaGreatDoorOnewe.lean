/-
  The pure evaluator, part e: slices that are built and cut; small built-in functions; the operations that leave the boxes alone, all together.
-/
import Derived.Test.YtepoplfbgaoggaaGreatDoorOnewd
set_option linter.defProp false
set_option linter.unusedSimpArgs false
namespace Go.Pv
open Go Go.RowKit
def AEO (z:Nat) (d:D):Option (List T) :=
 match qU d.cells with
 | some ts=>if 0<z/\ts.length=z/\ts.all T.leaf=true then some ts else none
 | none=>none
def z7 (P:Program) (t:TypeId) (len:Nat) (parts:List (Nat×D)):Option D :=
 match pM P t with
 | some e =>
  match tsz? P e,tz? P e with
  | some z,some _ =>
   if 0<z/\len*z<=16777216/\parts.map (·.1)=List.range len then
    (parts.mapM λx=>AEO z x.2).map λrows=>.p (.sl true rows)
   else none
  | _,_=>none
 | none=>none
def mR {α:Type}:∀ (xs:List α) (cells:List α) (off p:Nat),off+xs.length<=cells.length->(b6 cells off xs)[p]? = if off<=p/\p<off+xs.length then xs[p-off]? else cells[p]?
 | [],cells,off,p,_=>by simp[b6];omega
 | x::xs,cells,off,p,h=>by
  simp only[b6,List.length_cons] at h ⊢;rw[mR xs _ _ _ (by simp;omega)]
  grind
section
variable {P : Program} {w : World} {own : Nat -> Prop} {ρ : Nat -> Option Loc}
def TW (z:Nat) (vs:Nat->Value) (len:Nat) (hv:∀ i,i<len->(vs i).cells.size=z):∀ (k:Nat) (cells:Array Value),k<=len->cells.size=len*z ->
  (∀ i j,i<len-k->j<z->cells[i*z+j]? = (vs i).cells[j]?) ->
  ∃ us:Array Value,Instr.fill (λi=>some (i*z,z)) cells ((List.range' (len-k) k).map λi=>(i,vs i))=some us/\us.size=len*z/\∀ i j,i<len->j<z->us[i*z+j]? = (vs i).cells[j]?
 | 0,cells,_,hs,h=>⟨cells,rfl,hs,λi j hi hj=>h i j (by omega) hj⟩
 | k+1,cells,hk,hs,h=>by
  have hlt:len-(k+1)<len:=by omega
  have hc:=hv _ hlt;have hmul:(len-(k+1))*z+z<=len*z:=by
   have:=Nat.mul_le_mul_right z (show len-(k+1)+1<=len by omega);rw[Nat.add_mul,Nat.one_mul] at this;exact this
  have e:List.range' (len-(k+1)) (k+1)=(len-(k+1))::List.range' (len-k) k:=by
   rw[List.range'_succ];congr 2;omega
  obtain ⟨us,h1,h2,h3⟩:=TW z vs len hv k (b6 cells.toList ((len-(k+1))*z) (vs (len-(k+1))).cells.toList).toArray (by omega) (by simp[hs]) (λi j hi hj=>by
   have hg:=mR (vs (len-(k+1))).cells.toList cells.toList ((len-(k+1))*z) (i*z+j) (by simp[hc,hs];exact hmul);simp only[List.getElem?_toArray];rw[hg];by_cases hi':i=len-(k+1)
   ·simp_all
   ·have hlt':i+1<=len-(k+1):=by omega
    have:=Nat.mul_le_mul_right z hlt';rw[Nat.add_mul,Nat.one_mul] at this;rw[if_neg (by omega)];simpa using h i j (by omega) hj)
  rw[e];simp only[List.map_cons,Instr.fill,hc,fill_eq];simp_all
def mapM_some_length {α β:Type} {f:α->Option β}:∀ {l:List α} {r:List β},l.mapM f=some r->r.length=l.length/\∀ i (h:i<l.length) (h':i<r.length),f l[i]=some r[i]
 | [],r,h=>by simp at h;subst h;exact ⟨rfl,λi h=>by simp at h⟩
 | x::l,r,h=>by
  simp only[List.mapM_cons,Option.bind_eq_bind,Option.bind_eq_some_iff,Option.pure_def] at h;obtain ⟨y,hy,ys,hys,hr⟩:=h;cases hr;obtain ⟨h1,h2⟩:=mapM_some_length hys;refine ⟨by simp[h1],λi hi hi'=>?_⟩;cases i with
  | zero=>exact hy
  | succ i=>exact h2 i (by simpa using hi) (by simpa using hi')
def ASV {z:Nat} {d:D} {v:Value} {r:List T} (hd:Rd w own ρ d v) (h:AEO z d=some r):r.length=z/\v.cells.size=z/\∀ j (hj:j<r.length),∃ u,v.cells[j]? = some u/\cS w own r[j] u/\u.oneCell'=true:=by
 unfold AEO at h;split at h
 ·rename_i ts hts;split at h
  ·rename_i hok;cases h;have hc:=hd.cells (λe=>by have:=mT hts;rw[e] at this;cases r<;>simp at this hok;omega);rw[mT hts] at hc;refine ⟨hok.2.1,by rw[hc.1];simpa using hok.2.1,λj hj=>?_⟩;obtain ⟨u,h1,h2⟩:=hc.get? (i:=j) (d:=.p r[j]) (by simp[hj]);cases h2 with
   | p _ _ h2 =>
   exact ⟨u,h1,h2,h2.leaf (List.all_eq_true.1 hok.2.2 _ (ak hj))⟩
  ·cases h
 ·cases h
variable {len:Nat}
def TA {t:TypeId} {parts:List (Nat×D)} {vparts:List (Nat×Value)} {r:D} (hb:∀ b,own b->b<w.heap.size) (hl:parts.length=vparts.length)
  (hr:∀ i (h:i<parts.length) (h':i<vparts.length),parts[i].1=vparts[i].1/\Rd w own ρ parts[i].2 vparts[i].2) (h:z7 P t len parts=some r) :
  ∃ v o,(Instr.buildSlice t len vparts.toArray).run P w = .ok v (w.alloc o)/\Rd (w.alloc o) own ρ r v:=by
 unfold z7 at h;split at h
 ·rename_i e hel;have hu:=jV hel;split at h
  ·rename_i _ _ z zv hz hzv;split at h
   ·rename_i hok;obtain ⟨hz0,hbig,hix⟩:=hok;simp only[aa] at h;obtain ⟨rows,hrows,rfl⟩:=h;obtain ⟨hrl,hrow⟩:=mapM_some_length hrows;have hplen:parts.length=len:=by have:=congrArg List.length hix;simpa using this
    let vs:Nat->Value:=λi=>(vparts.getD i (0,undef)).2
    have hvp:vparts=(List.range' 0 len).map λi=>(i,vs i):=by
     apply List.ext_getElem
     ·simp_all
     ·intro i h1 h2;have h3:=(hr i (by omega) h1).1;have h4:parts[i].1=i:=by
       have:=congrArg (·[i]?) hix;simp[show i<parts.length by omega,show i<len by omega] at this;exact this
      have h5:vparts[i].1=i:=h3.symm.trans h4;have h6:vparts[i]=(i,vparts[i].2):=Prod.ext h5 rfl;simp only[List.getElem_map,List.getElem_range',Nat.zero_add,Nat.one_mul,vs,List.getD_eq_getElem?_getD,List.getElem?_eq_getElem h1,Option.getD_some];exact h6
    have hrd:∀ i (hi:i<rows.length),rows[i].length=z/\(vs i).cells.size=z/\∀ j (hj:j<rows[i].length),∃ u,(vs i).cells[j]? = some u/\cS w own rows[i][j] u/\u.oneCell'=true:=by
     intro i hi;have h1:i<parts.length:=by omega
     have h2:i<vparts.length:=by omega
     have h3:=(hr i h1 h2).2;have h4:vs i=vparts[i].2:=by simp[vs,h2]
     rw[h4];exact ASV h3 (hrow i h1 hi)
    have hne:¬ len*z > 2 ^ 24:=by omega
    obtain ⟨us,h1,h2,h3⟩:=TW z vs len (λi hi=>(hrd i (by omega)).2.1) len ((Array.range (len*z)).map (zv.cells[· % zv.cells.size]!)) (al _) (by simp) (λi j hi=>by omega);have h1':Instr.fill (λi=>some (i*z,z)) ((Array.range (len*z)).map (zv.cells[· % zv.cells.size]!)) vparts=some us:=by
     simp_all
    have h1'':Instr.fill (λi=>some (i*z,z)) ((Array.range (len*z)).map ((if len*z=0 then (#[]:Array Value) else zv.cells)[· % (if len*z=0 then (#[]:Array Value) else zv.cells).size]!)) vparts=some us:=by
     by_cases h0:len*z=0
     ·rw[if_pos h0,h0];rw[h0] at h1';simp only[Array.range_zero',Array.map_empty] at h1' ⊢;exact h1'
     ·simp_all
    refine ⟨.slice (some ⟨w.heap.size,0,none⟩) len len,.cells us e,?_,.p _ _ ?_⟩
    ·simp only[Instr.buildSlice,Sem.run_bind,run_underlying hu,Result.andThen_ok,run_sizeOf? w hz];rw[if_neg hne];by_cases h0:len*z=0
     ·simp only[if_pos h0] at h1'';rw[if_pos h0];simp only[Sem.run_bind,Result.andThen_ok,Sem.run_pure,h1'',newRow,run_newObj];rfl
     ·simp only[if_neg h0] at h1'';rw[if_neg h0];simp only[Sem.run_bind,run_zero? w hzv,Result.andThen_ok,Sem.run_pure,h1'',newRow,run_newObj];rfl
    ·have hg:Below w.heap.size w (w.alloc (.cells us e)):=(Below.refl _ _).alloc (al _) _;have hnown:¬ own w.heap.size:=λh=>by have:=hb _ h;omega
     by_cases hr0:rows=[]
     ·have:len=0:=by subst hr0;simp at hrl;omega
      subst this;subst hr0;exact .dF true _ 0 (λ_=>rfl) (by simp)
     ·have hlen:len=rows.length:=by omega
      have hcell:∀ i j,i<rows.length->j<z->∃ u,(w.alloc (.cells us e)).cell? ⟨w.heap.size,0+i*z+j,none⟩=some u/\u.oneCell'=true/\∀ (hi:i<rows.length) (hj:j<rows[i].length),cS (w.alloc (.cells us e)) own rows[i][j] u:=by
       intro i j hi hj;obtain ⟨a,_,b⟩:=hrd i hi;obtain ⟨u,c,d,f⟩:=b j (by omega);refine ⟨u,?_,f,λ_ _=>d.grow hg⟩;rw[World.cell?_alloc_new,Nat.zero_add,h3 i j (by omega) hj];exact c
      have hex:∃ f:Nat->Nat->Value,∀ i j,i<rows.length->j<z->(w.alloc (.cells us e)).cell? ⟨w.heap.size,0+i*z+j,none⟩=some (f i j)/\(f i j).oneCell'=true/\∀ (hi:i<rows.length) (hj:j<rows[i].length),cS (w.alloc (.cells us e)) own rows[i][j] (f i j):=by
       refine ⟨λi j=>if hij:i<rows.length/\j<z then Classical.choose (hcell i j hij.1 hij.2) else undef,λi j hi hj=>?_⟩;have hs:=Classical.choose_spec (hcell i j hi hj);simp only[dif_pos (show i<rows.length/\j<z from ⟨hi,hj⟩)];exact hs
      obtain ⟨f,hf⟩:=hex;rw[hlen];refine .sl true rows z w.heap.size 0 rows.length f (al _) ?_ (λ_=>rfl) hnown (by simp) (λr hr=>?_) hz0 (λi j hi hj=>⟨(hf i j hi hj).1,(hf i j hi hj).2.1⟩) (λi j hi hj=>(hf i j hi (by have:=(hrd i hi).1;omega)).2.2 hi hj)
      ·have:rows.length<=rows.length*z:=Nat.le_mul_of_pos_right _ hz0;rw[<-hlen] at *;omega
      ·obtain ⟨i,hi,rfl⟩:=List.mem_iff_getElem.1 hr;exact (hrd i hi).1
   ·cases h
  ·cases h
 ·cases h
def qW (d:Option D) (dflt hi:Nat):Option Nat :=
 match d with
 | none=>if dflt<=hi then some dflt else none
 | some (.p (.v (.int _ i)))=>if 0<=i/\i<=hi then some i.toNat else none
 | _=>none
def MR (z:Nat) (rows:List (List T)):Bool:=rows.head?.all λr=>decide (r.length=z)
def kF (σ:Nat->Option bL) (k z:Nat):Bool :=
 match (σ k).bind fJ with
 | some (r::_)=>decide (r.length=z)
 | _=>false
def lU (P:Program) (σ:Nat->Option bL) (t:TypeId) (d:D) (lo hi mx:Option D):Option D :=
 match pM P t with
 | some e =>
  match tsz? P e with
  | some z =>
   match d with
   | .own k =>
    match (σ k).bind fJ,mx with
    | some rs,none =>
     match qW hi rs.length rs.length with
     | some h=>match qW lo 0 h with
      | some l=>if h=l then some (.p (.sl false [])) else if kF σ k z then some (.bs k l (h-l)) else none
      | none=>none
     | none=>none
    | _,_=>none
   | .bs k off len =>
    match mx with
    | some _=>none
    | none =>
     match qW hi len len with
     | some h=>match qW lo 0 h with
      | some l=>if h=l then some (.p (.sl false [])) else if kF σ k z then some (.bs k (off+l) (h-l)) else none
      | none=>none
     | none=>none
   | .p t =>
    match gP t with
    | some (full,rows) =>
     if MR z rows then
      match mx with
      | none =>
       match qW hi rows.length rows.length with
       | some h=>match qW lo 0 h with
        | some l=>some (.p (.sl (full&&decide (h=rows.length)) ((rows.take h).drop l)))
        | none=>none
       | none=>none
      | some m =>
       match qW (some m) 0 rows.length,hi with
       | some m,some hi=>match qW (some hi) 0 m with
        | some h=>match qW lo 0 h with
         | some l=>some (.p (.sl (decide (h=m)) ((rows.take h).drop l)))
         | none=>none
        | none=>none
       | _,_=>none
     else none
    | none=>none
   | _=>none
  | none=>none
 | none =>
  match P.underlying t,d,mx with
  | some .string,.p (.v (.string s)),none =>
   match qW hi s.size s.size with
   | some h=>match qW lo 0 h with
    | some l=>some (.p (.v (.string (s.extract l h))))
    | none=>none
   | none=>none
  | _,_,_=>none
def RdO (w:World) (own:Nat->Prop) (ρ:Nat->Option Loc):Option D->Option Value->Prop
 | none,none=>True
 | some d,some v=>Rd w own ρ d v
 | _,_=>False
variable {dflt hi:Nat}
def nM {d:D} {v:Value} {n:Nat} (hd:Rd w own ρ d v) (h:qW (some d) dflt hi=some n) (code:BoundsCode):(Instr.sliceBound v hi code).run P w = .ok n w/\n<=hi:=by
 unfold qW at h;split at h
 ·simp_all
 ·rename_i e;cases e;split at h
  ·rename_i hok;cases h;cases hd with
   | p _ _ hd =>
   cases hd;refine ⟨by simp[Instr.sliceBound,asIntOf,hok.1,hok.2],by omega⟩
  ·cases h
 ·cases h
def S8 {n:Nat} (h:qW none dflt hi=some n):n=dflt/\n<=hi:=by
 simp only[qW] at h;split at h
 ·simp_all
 ·cases h
def pJ {lo hi:Option D} {vlo vhi:Option Value} (isSlice:Bool) {cap h l:Nat} (hlen:len<=cap) (hlo:RdO w own ρ lo vlo) (hhi:RdO w own ρ hi vhi) (h1:qW hi len len=some h) (h2:qW lo 0 h=some l) :
  (Instr.sliceBounds isSlice len cap vlo vhi none).run P w = .ok (l,h,cap) w/\l<=h/\h<=len:=by
 have hh:h<=len/\(match vhi with|some v=>Instr.sliceBound v cap (if isSlice then .sliceAcap else .sliceAlen)|none=>pure len:Sem Nat).run P w = .ok h w:=by
  match hi,vhi,hhi with
  | none,none,_ =>
   obtain ⟨rfl,h3⟩:=S8 h1;exact ⟨h3,by simp⟩
  | some d,some v,hhi =>
   have h3:qW (some d) len cap=some h:=by
    have h1':=h1;unfold qW at h1' ⊢;split at h1'<;>first|(rename_i e;cases e;done)|skip
    ·rename_i e;cases e;split at h1'
     ·rename_i hok;rw[if_pos ⟨hok.1,by omega⟩];exact h1'
     ·cases h1'
    ·cases h1'
   exact ⟨(nM (P:=P) hhi h1 .index).2,(nM hhi h3 _).1⟩
 have hl:l<=h/\(match vlo with|some v=>Instr.sliceBound v h .sliceB|none=>pure 0:Sem Nat).run P w = .ok l w:=by
  match lo,vlo,hlo with
  | none,none,_ =>
   obtain ⟨rfl,h3⟩:=S8 h2;exact ⟨h3,by simp⟩
  | some d,some v,hlo=>exact ⟨(nM (P:=P) hlo h2 .sliceB).2,(nM hlo h2 .sliceB).1⟩
 obtain ⟨hle,hh⟩:=hh;obtain ⟨hll,hl⟩:=hl;refine ⟨?_,hll,hle⟩;unfold Instr.sliceBounds;cases vhi<;>cases vlo<;>simp only[Sem.run_pure] at hh hl<;>first
  | (cases hh;cases hl;simp only[Sem.run_bind,Sem.run_pure,Result.andThen_ok];done)
  | (cases hh;simp only[Sem.run_bind,Sem.run_pure,Result.andThen_ok,hl,Option.isSome_none,Bool.false_eq_true,if_false];done)
  | (cases hl;simp only[Sem.run_bind,Sem.run_pure,Result.andThen_ok,hh];done)
  | (simp only[Sem.run_bind,Sem.run_pure,Result.andThen_ok,hh,hl,Option.isSome_none,Bool.false_eq_true,if_false];done)
end
end Go.Pv
