/-
  The pure evaluator, part k: append does what is said of it; the range over a string.
-/
import Derived.Lib.AppendStr
import Derived.Test.YtepoplfbgaoggaaGreatDoorOnewj
set_option linter.defProp false
set_option linter.unusedSimpArgs false
namespace Go.Pv
open Go Go.RowKit
section
variable {cx : Cx} {ρ : Nat -> Option Loc} {σ : Nat -> Option bL} {n : Nat} {w : World}
variable {P:Program}{zv:Value}
def AD8 {e:TypeId} {z by_:Nat} (h1:tsz? P e=some z) (h2:tby? P e=some by_) (h3:tz? P e=some zv):∃ i,P.info? e=some i/\i.size=z/\i.bytes=by_/\i.zero=some zv:=by
 simp only[tsz?,aa] at h1;obtain ⟨i,hi,rfl⟩:=h1;simp only[tby?,hi,Option.map_some,Option.some.injEq] at h2;simp only[tz?,hi,Option.bind_some] at h3;simp_all
variable {ty:TypeId}
def rV {t e:TypeId} {z:Nat} (hu:P.underlying t=some (.slice e)) (hz:tsz? P e=some z) (b a:Option Addr) (sLen sCap c:Nat) (hle:sLen<=sCap) (w:World) :
  (Builtin.append_ #[t,t] ty #[.slice b sLen sCap,.slice a 0 c]).run P w = .ok (.slice b sLen sCap) w:=by
 cases b<;>cases a<;>simp[Builtin.append_,run_underlying hu,run_sizeOf? w hz,Builtin.lenOf,Builtin.firstCells,loadCells,loadCellsFrom,hle,storeCells]
variable {sz bV off:Nat}{news:List Value}
def Src.add {own:Nat->Prop} {rows:List (List D)} (h:Src w own ρ sz rows bV off news):∀ j u,news[j]? = some u->w.cell? ((⟨bV,off,none⟩:Addr).add j)=some u:=by
 intro j u hu;rw[Addr.add_lit];exact (h.cell j u hu).1
def Src.one {own:Nat->Prop} {rows:List (List D)} (h:Src w own ρ sz rows bV off news):∀ u∈news,u.oneCell'=true:=by
 intro u hu;obtain ⟨p,hp,rfl⟩:=List.mem_iff_getElem.1 hu;exact (h.cell p _ (List.getElem?_eq_getElem hp)).2
def wI (hI:Inv cx ρ σ n w) {k:Nat} (hk:n<=k) {z:Nat} {olds news:List (List D)} {x:bL} (hx:fJ x=some (olds++news)) (hxz:∀ ro z' rows,x = .arr ro z' rows->z=z') {vo vn:List Value} {cap:Nat} (e:TypeId) (hz0:0<z) (hz:zv.cells.size=z) (hz1:zv.cells.all Value.oneCell'=true)
  (ho1:vo.length=olds.length*z) (ho2:∀ u∈vo,u.oneCell'=true) (ho3:∀ i j (hi:i<olds.length) (hj:j<olds[i].length),∃ u,vo[i*z+j]? = some u/\Rd w (bY cx ρ σ) ρ olds[i][j] u) (how:∀ r∈olds,r.length=z)
  (hn1:vn.length=news.length*z) (hn2:∀ u∈vn,u.oneCell'=true) (hn3:∀ i j (hi:i<news.length) (hj:j<news[i].length),∃ u,vn[i*z+j]? = some u/\Rd w (bY cx ρ σ) ρ news[i][j] u) (hnw:∀ r∈news,r.length=z)
  (hpos:0<olds.length+news.length) (hcap:olds.length+news.length<=cap) (hsm:olds.length+news.length<=2 ^ 47) (hmax:cap<=maxLen) :
  ∃ ρ' w',w'=w.drew.alloc (.cells (vo.toArray++vn.toArray++Builtin.zeroCells zv.cells (cap-(olds.length+news.length))) e)/\(∀ i,i≠k->ρ' i=ρ i)/\Inv cx ρ' (cJ σ k (some x)) (k+1) w' /\
   bZ cx ρ ρ' σ (cJ σ k (some x)) w w'/\Rd w' (bY cx ρ' (cJ σ k (some x))) ρ' (.own k) (.slice (some ⟨w.heap.size,0,none⟩) (olds.length+news.length) cap):=by
 have hb:=A1I (w:=w) (own:=bY cx ρ σ) (ρ:=ρ) (cap:=cap) e w.heap.size hz0 hz hz1 ho1 ho2 ho3 how hn1 hn2 hn3 hnw hcap hsm;generalize hcells:vo.toArray++vn.toArray++Builtin.zeroCells zv.cells (cap-(olds.length+news.length))=cells at hb ⊢
 let l:Loc:=⟨w.heap.size,z,cap,e,olds.length+news.length⟩
 have hd:Below w.heap.size w (w.drew.alloc (.cells cells e)):=((Below.refl _ _).drew).alloc (al _) _;obtain ⟨h1,h2⟩:=hI.oT (w':=w.drew.alloc (.cells cells e)) hk l x hd (λ_=>⟨al _,by show w.heap.size<(w.heap.push _).size;simp⟩) ⟨λ_=>⟨.cells cells e,by show (w.heap.push _)[w.heap.size]? = _;simp,
  (gC.rows x _ _ hx hxz hb).mono (λb _ hlt=>hd.block b hlt) hd.size (λb hb hn hc=>by
    rcases hc with hc|⟨_,rfl⟩
    ·exact hn hc
    ·exact Nat.lt_irrefl _ hb) (λi l' hi=>by rw[bU _ _ (λe=>by have:=(hI.new i l' hi).1;omega)];exact hi)⟩,λh=>by have:olds.length+news.length+cap=0:=h;omega⟩
 refine ⟨_,_,rfl,λi hi=>bU _ _ hi,h1,h2,?_⟩;exact Rd.own (w:=w.drew.alloc (.cells cells e)) (own:=bY cx (cJ ρ k (some l)) (cJ σ k (some x))) (ρ:=cJ ρ k (some l)) k l (by simp) (by show 0<olds.length+news.length+cap;omega) hcap hmax
def AA0 {α:Type} (c vs:List α) (o:Nat) (h:o+vs.length<=c.length):c.take (o+0)++vs++c.drop (o+0+vs.length)=b6 c o vs:=by
 apply List.ext_getElem?;intro p;rw[mR _ _ _ _ h];simp only[Nat.add_zero];by_cases h1:p<o
 ·rw[if_neg (by omega),List.append_assoc,List.getElem?_append_left (by simp;omega),List.getElem?_take,if_pos h1]
 ·by_cases h2:p<o+vs.length
  ·rw[if_pos (by omega),List.append_assoc,List.getElem?_append_right (by simp;omega),List.getElem?_append_left (by simp;omega)]
   congr 1
   simp;omega
  ·rw[if_neg (by omega),List.append_assoc,List.getElem?_append_right (by simp;omega),List.getElem?_append_right (by simp;omega),List.getElem?_drop]
   congr 1
   simp;omega
open Go.Lib (strCells strCells_length strCells_oneCell run_firstCells_string run_append_grow_string)
def oE (s:iII):(oD s).length=s.size:=by unfold oD;rw[ae];rfl
def AA5 (b:iII):∀ r∈bK (oD b),r.length=1:=λr hr=>by
 simp only[bK,oD,List.map_map,List.mem_map] at hr;obtain ⟨c,_,rfl⟩:=hr;rfl
def AT8 {own:Nat->Prop} (b:iII):∀ i j (hi:i<(bK (oD b)).length) (hj:j<(bK (oD b))[i].length),∃ u,(strCells b)[i*1+j]? = some u/\Rd w own ρ (bK (oD b))[i][j] u:=λi j hi hj=>by
 have hj0:j=0:=by have:=AA5 b _ (ak hi);omega
 subst hj0;have hi':i<b.data.toList.length:=by simpa [bK,oD] using hi
 refine ⟨.int .u8 (b.data.toList[i].toNat:Int),by simp[strCells] at hi' ⊢;simp[hi'],?_⟩;have:(bK (oD b))[i][0]=D.p (.v (.int .u8 (b.data.toList[i].toNat:Int))):=by simp[bK,oD]
 rw[this];exact .p _ _ (.v _)
def E5 {t u e:TypeId} {z:Nat} (hu:P.underlying t=some (.slice e)) (hus:P.underlying u=some .string) (hz:tsz? P e=some z) (b:Option Addr) (sLen sCap:Nat) (hle:sLen<=sCap) (s:iII) (h0:s.size=0) (w:World) :
  (Builtin.append_ #[t,u] ty #[.slice b sLen sCap,.string s]).run P w = .ok (.slice b sLen sCap) w:=by
 cases b<;>simp[Builtin.append_,run_underlying hu,run_underlying hus,run_sizeOf? w hz,Builtin.lenOf,Builtin.firstCells,hle,storeCells,h0]
structure BQ8 (P:Program) (w:World) (t u ty e:TypeId) (i:TypeInfo) (zv:Value) (z m:Nat) (y:Value) (news:List Value):Prop where
 zero:m=0->∀ (b:Option Addr) (p q:Nat),p<=q->(Builtin.append_ #[t,u] ty #[.slice b p q,y]).run P w = .ok (.slice b p q) w
 fit:0<m->∀ (k p C:Nat) (c:Array Value) (et:TypeId),w.heap[k]? = some (.cells c et (0,0))->p+m<=C->p*z+news.length<=c.toList.length->(Builtin.append_ #[t,u] ty #[.slice (some ⟨k,0,none⟩) p C,y]).run P w = .ok (.slice (some ⟨k,0,none⟩) (p+m) C) (w.setRow k (b6 c.toList (p*z) news).toArray)
 grow:0<m->∀ (b:Addr) (p q:Nat) (olds:List Value),olds.length=p*i.size->(∀ j v,olds[j]? = some v->w.cell? (b.add j)=some v)->q<p+m->((p+m:Nat):Int)<=9223372036854775807->Builtin.nextslicecap (p+m) q*i.bytes<=281474976710656 ->
  (Builtin.append_ #[t,u] ty #[.slice (some b) p q,y]).run P w = .ok (.slice (some ⟨w.heap.size,0,none⟩) (p+m) (grownCap w (p+m) q e)) (w.drew.alloc (.cells (olds.toArray++news.toArray++Builtin.zeroCells zv.cells (grownCap w (p+m) q e-(p+m))) e))
 nil:0<m->(m:Int)<=9223372036854775807->m*i.bytes<=281474976710656->(Builtin.append_ #[t,u] ty #[.slice none 0 0,y]).run P w = .ok (.slice (some ⟨w.heap.size,0,none⟩) m (grownCap w m 0 e)) (w.drew.alloc (.cells (news.toArray++Builtin.zeroCells zv.cells (grownCap w m 0 e-m)) e))
variable {y:Value}
def SZ (hI:Inv cx ρ σ n w) {k:Nat} (hk:n<=k) {t u e:TypeId} {x:Value} {k₀ z:Nat} {rs xs:List (List T)} {i:TypeInfo} (hs:Rd w (bY cx ρ σ) ρ (.own k₀) x) (hk0:σ k₀=some (.arr false z rs))
  (hi1:i.size=z) (hz0:0<z) (hzc:zv.cells.size=z) (hz1:zv.cells.all Value.oneCell'=true) (hxw':∀ r∈bK xs,r.length=z) (hbytes:(rs.length+xs.length)*i.bytes<=140737488355328) (hroom2:rs.length+xs.length<=140737488355328)
  (hlen:news.length=(bK xs).length*z) (hone:∀ v∈news,v.oneCell'=true) (hrd:∀ i j (hi:i<(bK xs).length) (hj:j<(bK xs)[i].length),∃ u,news[i*z+j]? = some u/\Rd w (bY cx ρ σ) ρ (bK xs)[i][j] u) (A:BQ8 cx.P w t u ty e i zv z xs.length y news) :
  ∃ v w' ρ',(∀ i,i≠k->ρ' i=ρ i)/\(Builtin.append_ #[t,u] ty #[x,y]).run cx.P w = .ok v w'/\Inv cx ρ' (cJ (cJ σ k₀ none) k (some (.arr false z (rs++xs)))) (k+1) w'/\bZ cx ρ ρ' σ (cJ (cJ σ k₀ none) k (some (.arr false z (rs++xs)))) w w'/\Rd w' (bY cx ρ' (cJ (cJ σ k₀ none) k (some (.arr false z (rs++xs))))) ρ' (.own k) v:=by
 have hk0':(σ k₀).bind fJ=some (bK rs):=by rw[hk0];rfl
 cases hs with
 | eW _ l a hl h0 =>
  have hrs0:rs=[]:=by
   have:=hI.qA hk0' hl;rw[show l.L=0 by omega] at this;simpa using this
  subst hrs0;by_cases hx0:xs=[]
  ·subst hx0;obtain ⟨g1,g2⟩:=hI.BIX (k₀:=k₀) (ro:=false) (z:=z) h0 hk (λx hx=>by rw[hk0] at hx;cases hx;rfl);exact ⟨_,w,_,λi hi=>bU _ _ hi,A.zero rfl _ _ _ (al _),g1,g2,.eW k l a (by simp) h0⟩
  ·have hxpos:0<xs.length:=List.length_pos_iff.2 hx0;have hmaxc:=grownCap_le_maxLen w (0+xs.length) 0 e (by simp only[maxLen];simp at hroom2;omega);have hgec:=grownCap_ge w (0+xs.length) 0 e;obtain ⟨d1,d2⟩:=hI.drop k₀ (λx hx=>by rw[hk0] at hx;cases hx;rfl);obtain ⟨ρ',w',rfl,g0,g1,g2,g3⟩:=wI d1 hk (olds:=[]) (news:=bK xs) (x:=.arr false z xs) rfl (λ_ _ _ e=>by cases e;rfl) (vo:=[]) (vn:=news) (zv:=zv) (cap:=grownCap w (0+xs.length) 0 e) e hz0 hzc hz1 (by simp) (by simp) (λi j hi=>by simp at hi) (by simp)
    hlen hone (λi j hi hj=>let ⟨u,u1,u2⟩:=hrd i j hi hj;⟨u,u1,d2.rd u2⟩) hxw' (by simpa using hxpos) (by simpa using hgec) (by simpa using hroom2) (by simpa using hmaxc)
   simp only[dL,List.length_nil] at g1 g2 g3;refine ⟨_,_,ρ',g0,?_,g1,d2.trans' g2,g3⟩;cases a with
   | none =>
    have:=A.nil hxpos (by omega) (by simp at hbytes;omega);simpa using this
   | some a =>
    have:=A.grow hxpos a 0 0 [] (by simp) (by simp) (by omega) (by omega) (growslice_fits (by omega) (by simpa using hbytes));simpa using this
 | own _ l hl h0 hc1 hc2 =>
  have hL:=hI.qA hk0' hl;simp only[dL] at hL;have hlz:l.sz=z:=hI.BMH hk0 hl h0;obtain ⟨c,hheap,hb⟩:=hI.JP hk0' hl h0;rw[<-hL];by_cases hx0:xs=[]
  ·subst hx0;obtain ⟨g1,g2⟩:=hI.move (k:=k) (l2:=l) (x:=.arr false z (rs++[])) hk0 hl h0 rfl hk rfl h0 (.cells c l.e (0,0)) rfl rfl rfl rfl hheap (λ_ _=>rfl) (λ_ h=>h) (.rows _ _ c (by simp[fJ]) (λ_ _ _ e=>by cases e;exact hlz) hb);refine ⟨_,w,_,λi hi=>bU _ _ hi,A.zero rfl _ _ _ (by omega),g1,g2,?_⟩;rw[hL];exact .own k l (by simp) h0 hc1 hc2
  ·have hxpos:0<xs.length:=List.length_pos_iff.2 hx0;have hsl:news.length=xs.length*z:=by simpa using hlen
   have hrw':∀ r∈bK rs,r.length=z:=λr hr=>by rw[hb.width r hr];exact hlz
   have hbsz:=hb.size;have hcnt:=hb.uX;by_cases hin:rs.length+xs.length<=l.C
   ·have hfit:rs.length*z+news.length<=c.toList.length:=by
     simp only[Array.length_toList];rw[hb.size,hsl,<-Nat.add_mul,hlz];exact Nat.mul_le_mul_right _ hin
    have hrun:=A.fit hxpos l.bV rs.length l.C c l.e hheap hin hfit;have hcell:∀ p,(b6 c.toList (rs.length*z) news).toArray[p]? = if rs.length*z<=p/\p<rs.length*z+news.length then news[p-rs.length*z]? else c[p]? := by
     intro p;simp only[List.getElem?_toArray];rw[mR _ _ _ _ hfit];simp
    have hnew:gC w (bY cx ρ σ) ρ ⟨l.bV,l.sz,l.C,l.e,rs.length+xs.length⟩ (.cells (b6 c.toList (rs.length*z) news).toArray l.e (0,0)) (.arr false z (rs++xs)):=by
     refine gC.rows (l:=⟨l.bV,l.sz,l.C,l.e,rs.length+xs.length⟩) (.arr false z (rs++xs)) (bK rs++bK xs) _ (by simp[fJ,bK]) (λ_ _ _ e=>by cases e;exact hlz) ⟨by simpa using hbsz,hb.pos,by simpa using hroom2,by simpa using hin,by simp,λr hr=>?_,λi' j' hi' hj'=>?_,λp v hp=>?_⟩
     ·rcases List.mem_append.1 hr with h|h
      ·exact hb.width r h
      ·exact (hxw' r h).trans hlz.symm
     ·rw[hcell];simp at hi';by_cases h1:i'<rs.length
      ·have h1':i'<(bK rs).length:=by simpa using h1
       simp only[List.getElem_append_left h1'] at hj' ⊢;have hw':=hb.width _ (ak h1');have:=kR (m:=1) (j:=j') h1 (by omega:j'+1<=l.sz);rw[hlz] at this;show ∃ v,(if rs.length*z<=i'*l.sz+j'/\i'*l.sz+j'<rs.length*z+news.length then _ else c[i'*l.sz+j']?)=some v/\_;rw[if_neg (by rw[hlz];omega)];exact hb.cell i' j' h1' hj'
      ·have h2:i'-rs.length<xs.length:=by omega
       have h2':i'-(bK rs).length<(bK xs).length:=by simpa using h2
       simp only[List.getElem_append_right (show (bK rs).length<=i' by simp;omega)] at hj' ⊢;have hw':=hxw' _ (ak h2');have:=kR (m:=1) (j:=j') h2 (by omega:j'+1<=z);have e3:i'*z=rs.length*z+(i'-rs.length)*z:=by rw[<-Nat.add_mul];congr 1;omega
       show ∃ v,(if rs.length*z<=i'*l.sz+j'/\i'*l.sz+j'<rs.length*z+news.length then news[i'*l.sz+j'-rs.length*z]? else _)=some v/\_;rw[hlz,if_pos (by omega),show i'*z+j'-rs.length*z=(i'-rs.length)*z+j' by omega];have:=hrd (i'-(bK rs).length) j' h2' hj';simpa using this
     ·rw[hcell] at hp;split at hp
      ·exact hone v (List.mem_of_getElem? hp)
      ·exact hb.one p v hp
    obtain ⟨g1,g2⟩:=hI.move (k:=k) (w':=w.setRow l.bV (b6 c.toList (rs.length*z) news).toArray) (l2:=⟨l.bV,l.sz,l.C,l.e,rs.length+xs.length⟩) hk0 hl h0 rfl hk rfl (by show 0<rs.length+xs.length+l.C;omega) _ rfl rfl rfl (by simp) (setRow_heap w l.bV c _ l.e (0,0) hheap) (λb hne=>setRow_other w l.bV b _ hne) (AAX hheap (setRow_heap w l.bV c _ l.e (0,0) hheap) (by simp)) hnew;refine ⟨_,_,_,λi hi=>bU _ _ hi,hrun,g1,g2,?_⟩;exact .own k ⟨l.bV,l.sz,l.C,l.e,rs.length+xs.length⟩ (by simp) (by show 0<rs.length+xs.length+l.C;omega) hin hc2
   ·by_cases hr0:rs=[]
    ·subst hr0;have hgec:=grownCap_ge w (0+xs.length) l.C e;have hmaxc:=grownCap_le_maxLen w (0+xs.length) l.C e (by simp only[maxLen];simp at hroom2;omega);obtain ⟨d1,d2⟩:=hI.drop k₀ (λx hx=>by rw[hk0] at hx;cases hx;rfl);obtain ⟨ρ',w',rfl,g0,g1,g2,g3⟩:=wI d1 hk (olds:=[]) (news:=bK xs) (x:=.arr false z ([]++xs)) rfl (λ_ _ _ e=>by cases e;rfl) (vo:=[]) (vn:=news) (zv:=zv) (cap:=grownCap w (0+xs.length) l.C e) e hz0 hzc hz1 (by simp) (by simp) (λi j hi=>by simp at hi) (by simp)
      hlen hone (λi j hi hj=>let ⟨u,u1,u2⟩:=hrd i j hi hj;⟨u,u1,d2.rd u2⟩) hxw' (by simpa using hxpos) (by simpa using hgec) (by simpa using hroom2) (by simpa using hmaxc)
     simp only[dL,List.length_nil] at g1 g2 g3;refine ⟨_,_,ρ',g0,?_,g1,d2.trans' g2,g3⟩;have:=A.grow hxpos ⟨l.bV,0,none⟩ 0 l.C [] (by simp) (by simp) (by simp at hin;omega) (by simp at hin;omega) (growslice_fits (by simp at hin;omega) (by simpa using hbytes));simpa using this
    obtain ⟨xa',xc',hxe,_,_,hosrc⟩:=MZ hI (d:=.own k₀) (rows:=bK rs) (z:=z) (.own _ l hl h0 hc1 hc2) (by simp[AAU,hk0,fJ]) (List.all_eq_true.2 λr hr=>by simpa using hrw' r hr);obtain ⟨_,ob,oo,olds,hoe,hos⟩:=hosrc (by simpa using hr0);injection hxe with hxe1 hxe2 hxe3
    rw[hoe] at hxe1;have hgec:=grownCap_ge w (rs.length+xs.length) l.C e;have hmaxc:=grownCap_le_maxLen w (rs.length+xs.length) l.C e (by simp only[maxLen];omega);obtain ⟨d1,d2⟩:=hI.drop k₀ (λx hx=>by rw[hk0] at hx;cases hx;rfl);obtain ⟨ρ',w',rfl,g0,g1,g2,g3⟩:=wI d1 hk (olds:=bK rs) (news:=bK xs) (x:=.arr false z (rs++xs)) (by simp[fJ,bK]) (λ_ _ _ e=>by cases e;rfl) (vo:=olds) (vn:=news) (zv:=zv) (cap:=grownCap w (rs.length+xs.length) l.C e) e hz0 hzc hz1
     hos.len hos.one (λi j hi hj=>let ⟨u,u1,u2⟩:=hos.rd i j hi hj;⟨u,u1,d2.rd u2⟩) hrw'
     hlen hone (λi j hi hj=>let ⟨u,u1,u2⟩:=hrd i j hi hj;⟨u,u1,d2.rd u2⟩) hxw' (by simp;omega) (by simpa using hgec) (by simpa using hroom2) hmaxc
    simp only[dL] at g1 g2 g3;refine ⟨_,_,ρ',g0,?_,g1,d2.trans' g2,g3⟩;have:=A.grow hxpos ⟨ob,oo,none⟩ rs.length l.C olds (by rw[hi1];simpa using hos.len) hos.add (by omega) (by omega) (growslice_fits (by omega) hbytes);rw[hxe1];exact this
variable {xd:D}{σ':Nat->Option bL}
def AH7 (hI:Inv cx ρ σ n w) {k:Nat} (hk:n<=k) {t u:TypeId} {s d:D} {x:Value} (hs:Rd w (bY cx ρ σ) ρ s x) (hx:Rd w (bY cx ρ σ) ρ xd y)
  (h:GY cx.P σ k t u s xd=some (d,σ')):∃ v w' ρ',(∀ i,i≠k->ρ' i=ρ i)/\(Builtin.append_ #[t,u] ty #[x,y]).run cx.P w = .ok v w'/\Inv cx ρ' σ' (k+1) w'/\bZ cx ρ ρ' σ σ' w w'/\Rd w' (bY cx ρ' σ') ρ' d v:=by
 unfold GY at h;split at h
 ·rename_i _ _ _ e b hel hus;have hu:=jV hel;split at h
  ·rename_i _ _ _ z by_ zv hz hby hzv;split at h
   ·rename_i hok;obtain ⟨rfl,hzc,hz1⟩:=hok;have hy:y = .string b:=by
     cases hx with
     | p _ _ hx=>cases hx;rfl
    subst hy;obtain ⟨i,hi,hi1,hi2,hi3⟩:=AD8 hz hby hzv;split at h
    ·rename_i k₀;split at h
     ·rename_i z' rs hk0;have hk0':(σ k₀).bind fJ=some (bK rs):=by rw[hk0];rfl
      split at h
      ·rename_i hok2;obtain ⟨rfl,hroom,hroom2⟩:=hok2;cases h;refine SZ (e:=e) hI hk hs hk0 hi1 (by decide) hzc hz1 (AA5 b) (by rw[oE,hi2];exact hroom) (by rw[oE];exact hroom2) (by rw[dL,oE,Nat.mul_one];exact strCells_length b) (strCells_oneCell b) (AT8 b) ?_;rw[oE];refine ⟨λh0 a p q h=>E5 hu hus hz _ _ _ h b h0 w,λ_ k p C c et hh hin hfit=>?_,λ_ a p q olds h1 h2 h3 h4 h5=>run_append_grow_string (P:=cx.P) w t u ty e i zv hu hus hi hi3 a p q olds h1 h2 b h3 h4 h5,λh0 h1 h2=>?_⟩
       ·have hf:=run_firstCells_string (P:=cx.P) w 1 b;have hst:=run_storeCells_at cx.P k (p*1) et (strCells b) 0 c w hh (by simpa using hfit) (strCells_oneCell b);rw[AA0 _ _ _ hfit] at hst;rw[Nat.mul_one] at hst ⊢;simp[Builtin.append_,run_underlying hu,run_underlying hus,run_sizeOf? w hz,Builtin.lenOf,hin,hf,Addr.add_lit,hst]
       ·rw[show (strCells b).toArray=b.data.map (λc=>Value.int .u8 c.toNat) by apply Array.ext';simp[strCells]];exact run_append_nil_string (P:=cx.P) w t u ty e i zv hu hus hi hi3 b h0 h1 h2
      ·cases h
     ·cases h
    ·cases h
   ·cases h
  ·cases h
 ·cases h
def OH (hI:Inv cx ρ σ n w) {k:Nat} (hk:n<=k) {t u:TypeId} {s d:D} {x:Value} (hs:Rd w (bY cx ρ σ) ρ s x) (hx:Rd w (bY cx ρ σ) ρ xd y)
  (h:kC cx.P σ k t u s xd=some (d,σ')):∃ v w' ρ',(∀ i,i≠k->ρ' i=ρ i)/\(Builtin.append_ #[t,u] ty #[x,y]).run cx.P w = .ok v w'/\Inv cx ρ' σ' (k+1) w'/\bZ cx ρ ρ' σ σ' w w'/\Rd w' (bY cx ρ' σ') ρ' d v:=by
 unfold kC at h;split at h
 ·rename_i htu;subst htu;split at h
  ·rename_i e hel;have hu:=jV hel;split at h
   ·rename_i _ _ _ _ z by_ zv xs hz hby hzv hxs;split at h
    ·rename_i hok;obtain ⟨hz0,hzc,hz1,hxw⟩:=hok;replace hxw:(bK xs).all (λr=>decide (r.length=z))=true:=by simpa [bK,iD,List.all_map,Function.comp_def] using hxw
     have hxw':∀ r∈bK xs,r.length=z:=λr hr=>by simpa using List.all_eq_true.1 hxw r hr
     obtain ⟨i,hi,hi1,hi2,hi3⟩:=AD8 hz hby hzv;obtain ⟨ya,yc,rfl,hylen,hyc,hysrc⟩:=MZ hI hx (AMX hxs) hxw;simp only[dL] at hylen hyc hysrc ⊢;split at h
     ·rename_i st;split at h
      ·rename_i full hrows;cases hs with
       | p _ _ hs =>
       have hsl:=oA hs hrows;obtain ⟨xa,xc,rfl,hc1,hc2,hc3⟩:=hsl.isSlice;split at h
       ·rename_i hok2;obtain ⟨hfull,hroom,hroom2⟩:=hok2;have hcap:=hc2 hfull;simp only[List.length_nil] at hcap;subst hcap;cases h;by_cases hx0:xs=[]
        ·subst hx0;obtain ⟨g1,g2⟩:=hI.oT hk ⟨0,z,0,e,0⟩ (.arr false z []) (Below.refl _ _) (λh=>by simp at h) ⟨λh=>by simp at h,λ_=>⟨_,_,rfl⟩⟩;exact ⟨_,w,_,λi hi=>bU _ _ hi,rV hu hz _ _ _ _ _ hc1 w,g1,g2,.eW k ⟨0,z,0,e,0⟩ xa (by simp) rfl⟩
        ·obtain ⟨_,yb,yo,news,rfl,hsrc⟩:=hysrc (by simpa using hx0);have hxpos:0<xs.length:=List.length_pos_iff.2 hx0;have hbytes:(0+xs.length)*i.bytes<=140737488355328:=by rw[hi2];simpa using hroom
         have hmaxc:=grownCap_le_maxLen w (0+xs.length) 0 e (by simp only[maxLen];omega);have hgec:=grownCap_ge w (0+xs.length) 0 e;obtain ⟨ρ',w',rfl,g0,g1,g2,g3⟩:=wI hI hk (olds:=[]) (news:=bK xs) (x:=.arr false z xs) rfl (λ_ _ _ e=>by cases e;rfl) (vo:=[]) (vn:=news) (zv:=zv) (cap:=grownCap w (0+xs.length) 0 e) e hz0 hzc hz1 (by simp) (by simp) (λi j hi=>by simp at hi) (by simp)
          hsrc.len hsrc.one hsrc.rd hxw' (by simpa using hxpos) (by simpa using hgec) (by simpa using hroom2) (by simpa using hmaxc)
         simp only[dL,List.length_nil] at g1 g2 g3;refine ⟨_,_,ρ',g0,?_,g1,g2,g3⟩;cases xa with
         | none =>
          have:=run_append_nil (P:=cx.P) w t ty e i zv hu hi hi3 ⟨yb,yo,none⟩ xs.length yc news (by rw[hi1];simpa using hsrc.len) hsrc.add hxpos (by omega) (by simp at hbytes;omega);simpa using this
         | some xa =>
          have:=run_append_grow (P:=cx.P) w t ty e i zv hu hi hi3 xa 0 0 [] (by simp) (by simp) ⟨yb,yo,none⟩ xs.length yc news (by rw[hi1];simpa using hsrc.len) hsrc.add (by omega) (by omega) (growslice_fits (by omega) (by simpa using hbytes));simpa using this
       ·cases h
      ·rename_i full r0 JP hrows;generalize hrr:r0::JP=rows at hrows h;have hrne:rows≠[]:=by rw[<-hrr];simp
       cases hs with
       | p _ _ hs =>
       have hsl:=oA hs hrows;obtain ⟨xa,xc,rfl,hc1,hc2,hc3⟩:=hsl.isSlice;by_cases hx0:xs=[]
       ·subst hx0;cases h;exact ⟨_,w,ρ,λ_ _=>rfl,rV hu hz _ _ _ _ _ hc1 w,hI.grow (Below.refl _ _) (by omega),bZ.refl _ _ _ _,.p _ _ hs⟩
       ·obtain ⟨x0,xs0,hxe⟩:=List.exists_cons_of_ne_nil hx0;rw[hxe] at h;simp only[] at h;rw[<-hxe] at h;split at h
        ·rename_i hok2;obtain ⟨hfull,hrw,hroom,hroom2⟩:=hok2;replace hrw:(bK rows).all (λr=>decide (r.length=z))=true:=by simpa [bK,iD,List.all_map,Function.comp_def] using hrw
         cases h;obtain ⟨_,yb,yo,news,rfl,hsrc⟩:=hysrc (by simpa using hx0);have hcap:=hc2 hfull;subst hcap;have hxpos:0<xs.length:=List.length_pos_iff.2 hx0;have hrw':∀ r∈bK rows,r.length=z:=λr hr=>by simpa using List.all_eq_true.1 hrw r hr
         have hbytes:(rows.length+xs.length)*i.bytes<=140737488355328:=by rw[hi2];exact hroom
         have hmaxc:=grownCap_le_maxLen w (rows.length+xs.length) rows.length e (by simp only[maxLen];omega);have hgec:=grownCap_ge w (rows.length+xs.length) rows.length e;obtain ⟨xa',xc',hxe,_,_,hosrc⟩:=MZ hI (d:=.p st) (x:=.slice xa rows.length rows.length) (rows:=bK rows) (z:=z) (.p _ _ hs) (by simp[AAU,hrows]) hrw;obtain ⟨_,ob,oo,olds,hoe,hos⟩:=hosrc (by simpa using hrne);injection hxe with hxe1 hxe2 hxe3
         rw[hoe] at hxe1;subst hxe1;have hol:olds.length=rows.length*z:=by have:=hos.len;simpa using this
         obtain ⟨ρ',w',rfl,g0,g1,g2,g3⟩:=wI hI hk (olds:=bK rows) (news:=bK xs) (x:=.arr false z (rows++xs)) (by simp[fJ,bK]) (λ_ _ _ e=>by cases e;rfl) (vo:=olds) (vn:=news) (zv:=zv) (cap:=grownCap w (rows.length+xs.length) rows.length e) e hz0 hzc hz1 hos.len hos.one hos.rd hrw'
          hsrc.len hsrc.one hsrc.rd hxw' (by simp;omega) (by simpa using hgec) (by simpa using hroom2) hmaxc
         simp only[dL] at g1 g2 g3;refine ⟨_,_,ρ',g0,?_,g1,g2,by simpa using g3⟩;have:=run_append_grow (P:=cx.P) w t ty e i zv hu hi hi3 ⟨ob,oo,none⟩ rows.length rows.length olds (by rw[hi1];exact hol) hos.add ⟨yb,yo,none⟩ xs.length yc news (by rw[hi1];simpa using hsrc.len) hsrc.add (by omega) (by omega) (growslice_fits (by omega) hbytes);simpa using this
        ·cases h
      ·cases h
     ·rename_i k₀;split at h
      ·rename_i z' rs hk0;have hk0':(σ k₀).bind fJ=some (bK rs):=by rw[hk0];rfl
       split at h
       ·rename_i hok2;obtain ⟨hzz,hroom,hroom2⟩:=hok2;subst hzz;cases h;have hbytes:(rs.length+xs.length)*i.bytes<=140737488355328:=by rw[hi2];exact hroom
        obtain ⟨news,a1,a2,a3,A⟩:∃ news,news.length=(bK xs).length*z'/\(∀ v∈news,v.oneCell'=true)/\(∀ i j (hi:i<(bK xs).length) (hj:j<(bK xs)[i].length),∃ u,news[i*z'+j]? = some u/\Rd w (bY cx ρ σ) ρ (bK xs)[i][j] u)/\BQ8 cx.P w t t ty e i zv z' xs.length (.slice ya xs.length yc) news:=by
         by_cases hx0:xs=[]
         ·subst hx0;exact ⟨[],by simp,by simp,λi j hi=>by simp at hi,λ_ b p q h=>rV hu hz b _ p q _ h w,λh=>absurd h (Nat.lt_irrefl 0),λh=>absurd h (Nat.lt_irrefl 0),λh=>absurd h (Nat.lt_irrefl 0)⟩
         ·obtain ⟨_,yb,yo,news,rfl,hsrc⟩:=hysrc (by simpa using hx0);have hl:news.length=xs.length*i.size:=by rw[hi1];simpa using hsrc.len
          refine ⟨news,hsrc.len,hsrc.one,hsrc.rd,λh=>absurd (List.eq_nil_of_length_eq_zero h) hx0,λ_ k p C c et hh hin hfit=>?_,λ_ b p q olds h1 h2 h3 h4 h5=>run_append_grow (P:=cx.P) w t ty e i zv hu hi hi3 b p q olds h1 h2 _ _ yc news hl hsrc.add h3 h4 h5,λh0 h1 h2=>run_append_nil (P:=cx.P) w t ty e i zv hu hi hi3 _ _ yc news hl hsrc.add h0 h1 h2⟩;have hf:=run_firstCells_some (P:=cx.P) w z' xs.length ⟨yb,yo,none⟩ xs.length yc news (by simpa using hsrc.len) hsrc.add;have hst:=run_storeCells_at cx.P k (p*z') et news 0 c w hh (by simpa using hfit) hsrc.one;rw[AA0 _ _ _ hfit] at hst;simp[Builtin.append_,run_underlying hu,run_sizeOf? w hz,Builtin.lenOf,hin,hf,Addr.add_lit,hst]
        exact SZ hI hk hs hk0 hi1 hz0 hzc hz1 hxw' hbytes hroom2 a1 a2 a3 A
       ·cases h
      ·cases h
     ·cases h
    ·cases h
   ·cases h
  ·cases h
 ·exact AH7 hI hk hs hx h
def APK (hI:Inv cx ρ σ n w) {k:Nat} (hk:n<=k) {t u:TypeId} {s d:D} {x:Value} (hs:Rd w (bY cx ρ σ) ρ s x) (hx:Rd w (bY cx ρ σ) ρ xd y)
  (h:kC cx.P σ k t u s xd=some (d,σ')):∃ v w' ρ',(Builtin.append_ #[t,u] ty #[x,y]).run cx.P w = .ok v w'/\Inv cx ρ' σ' (k+1) w'/\bZ cx ρ ρ' σ σ' w w'/\Rd w' (bY cx ρ' σ') ρ' d v:=by
 obtain ⟨v,w',ρ',_,h⟩:=OH (ty:=ty) hI hk hs hx h;exact ⟨v,w',ρ',h⟩
end
end Go.Pv
