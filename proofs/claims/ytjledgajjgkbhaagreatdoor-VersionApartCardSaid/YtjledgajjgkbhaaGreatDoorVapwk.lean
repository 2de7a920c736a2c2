/-
  The pure evaluator, part k: append does what is said of it; the range over a string.
-/
import Derived.Lib.AppendStr
import Derived.Test.YtjledgajjgkbhaaGreatDoorVapwj
set_option linter.defProp false
set_option linter.unusedSimpArgs false
namespace Go.Pv
open Go Go.RowKit
section
variable {cx : Cx} {ρ : Nat → Option Loc} {σ : Nat → Option bB} {n : Nat} {w : World}
theorem WN {P:Program} {e:TypeId} {z by_:Nat} {zv:Value} (h1:tsz? P e=some z) (h2:tby? P e=some by_) (h3:tz? P e=some zv):∃ i,P.info? e=some i∧i.size=z∧i.bytes=by_∧i.zero=some zv:=by
 simp only[tsz?,Option.map_eq_some_iff] at h1
 obtain ⟨i,hi,rfl⟩:=h1
 simp only[tby?,hi,Option.map_some,Option.some.injEq] at h2
 simp only[tz?,hi,Option.bind_some] at h3
 simp_all
theorem mJ {P:Program} {t ty e:TypeId} {z:Nat} (hu:P.underlying t=some (.slice e)) (hz:tsz? P e=some z) (b a:Option Addr) (sLen sCap c:Nat) (hle:sLen≤sCap) (w:World) :
  (Builtin.append_ #[t,t] ty #[.slice b sLen sCap,.slice a 0 c]).run P w = .ok (.slice b sLen sCap) w:=by
 cases b<;>cases a<;>simp[Builtin.append_,run_underlying hu,run_sizeOf? w hz,Builtin.lenOf,Builtin.firstCells,loadCells,loadCellsFrom,hle,storeCells]
theorem Src.add {own:Nat→Prop} {sz:Nat} {rows:List (List D)} {bJ off:Nat} {news:List Value} (h:Src w own ρ sz rows bJ off news):∀ j u,news[j]? = some u→w.cell? ((⟨bJ,off,none⟩:Addr).add j)=some u:=by
 intro j u hu
 rw[Addr.add_lit]
 exact (h.cell j u hu).1
theorem Src.one {own:Nat→Prop} {sz:Nat} {rows:List (List D)} {bJ off:Nat} {news:List Value} (h:Src w own ρ sz rows bJ off news):∀ u∈news,u.oneCell'=true:=by
 intro u hu
 obtain ⟨p,hp,rfl⟩:=List.mem_iff_getElem.1 hu
 exact (h.cell p _ (List.getElem?_eq_getElem hp)).2
theorem l9 (hI:Inv cx ρ σ n w) {k:Nat} (hk:n≤k) {z:Nat} {olds news:List (List D)} {x:bB} (hx:eC x=some (olds++news)) (hxz:∀ ro z' rows,x = .arr ro z' rows→z=z') {vo vn:List Value} {zv:Value} {cap:Nat} (e:TypeId) (hz0:0<z) (hz:zv.cells.size=z) (hz1:zv.cells.all Value.oneCell'=true)
  (ho1:vo.length=olds.length*z) (ho2:∀ u∈vo,u.oneCell'=true) (ho3:∀ i j (hi:i<olds.length) (hj:j<olds[i].length),∃ u,vo[i*z+j]? = some u∧Rd w (bL cx ρ σ) ρ olds[i][j] u) (how:∀ r∈olds,r.length=z)
  (hn1:vn.length=news.length*z) (hn2:∀ u∈vn,u.oneCell'=true) (hn3:∀ i j (hi:i<news.length) (hj:j<news[i].length),∃ u,vn[i*z+j]? = some u∧Rd w (bL cx ρ σ) ρ news[i][j] u) (hnw:∀ r∈news,r.length=z)
  (hpos:0<olds.length+news.length) (hcap:olds.length+news.length≤cap) (hsm:olds.length+news.length≤2 ^ 47) (hmax:cap≤maxLen) :
  ∃ ρ' w',w'=w.drew.alloc (.cells (vo.toArray++vn.toArray++Builtin.zeroCells zv.cells (cap-(olds.length+news.length))) e)∧(∀ i,i≠k→ρ' i=ρ i)∧Inv cx ρ' (bY σ k (some x)) (k+1) w' ∧
   bO cx ρ ρ' σ (bY σ k (some x)) w w'∧Rd w' (bL cx ρ' (bY σ k (some x))) ρ' (.own k) (.slice (some ⟨w.heap.size,0,none⟩) (olds.length+news.length) cap):=by
 have hb:=S5 (w:=w) (own:=bL cx ρ σ) (ρ:=ρ) (cap:=cap) e w.heap.size hz0 hz hz1 ho1 ho2 ho3 how hn1 hn2 hn3 hnw hcap hsm
 generalize hcells:vo.toArray++vn.toArray++Builtin.zeroCells zv.cells (cap-(olds.length+news.length))=cells at hb ⊢
 let l:Loc:=⟨w.heap.size,z,cap,e,olds.length+news.length⟩
 have hd:Below w.heap.size w (w.drew.alloc (.cells cells e)):=((Below.refl _ _).drew).alloc (Nat.le_refl _) _
 obtain ⟨h1,h2⟩:=hI.lW (w':=w.drew.alloc (.cells cells e)) hk l x hd (fun _=>⟨Nat.le_refl _,by show w.heap.size<(w.heap.push _).size;simp⟩) ⟨fun _=>⟨.cells cells e,by show (w.heap.push _)[w.heap.size]? = _;simp,
  (dV.rows x _ _ hx hxz hb).mono (fun b _ hlt=>hd.block b hlt) hd.size (fun b hb hn hc=>by
    rcases hc with hc|⟨_,rfl⟩
    ·exact hn hc
    ·exact Nat.lt_irrefl _ hb) (fun i l' hi=>by rw[bK _ _ (fun e=>by have:=(hI.new i l' hi).1;omega)];exact hi)⟩,fun h=>by have:olds.length+news.length+cap=0:=h;omega⟩
 refine ⟨_,_,rfl,fun i hi=>bK _ _ hi,h1,h2,?_⟩
 exact Rd.own (w:=w.drew.alloc (.cells cells e)) (own:=bL cx (bY ρ k (some l)) (bY σ k (some x))) (ρ:=bY ρ k (some l)) k l (by simp) (by show 0<olds.length+news.length+cap;omega) hcap hmax
theorem I9 {α:Type} (c vs:List α) (o:Nat) (h:o+vs.length≤c.length):c.take (o+0)++vs++c.drop (o+0+vs.length)=bP c o vs:=by
 apply List.ext_getElem?
 intro p
 rw[jF _ _ _ _ h]
 simp only[Nat.add_zero]
 by_cases h1:p<o
 ·rw[if_neg (by omega),List.append_assoc,List.getElem?_append_left (by simp;omega),List.getElem?_take,if_pos h1]
 ·by_cases h2:p<o+vs.length
  ·rw[if_pos (by omega),List.append_assoc,List.getElem?_append_right (by simp;omega),List.getElem?_append_left (by simp;omega)]
   congr 1
   simp;omega
  ·rw[if_neg (by omega),List.append_assoc,List.getElem?_append_right (by simp;omega),List.getElem?_append_right (by simp;omega),List.getElem?_drop]
   congr 1
   simp;omega
open Go.Lib (strCells strCells_length strCells_oneCell run_firstCells_string run_append_grow_string)
theorem iS (s:ByteArray):(dD s).length=s.size:=by unfold dD;rw[List.length_map];rfl
theorem T6 (b:ByteArray):∀ r∈aU (dD b),r.length=1:=fun r hr=>by
 simp only[aU,dD,List.map_map,List.mem_map] at hr
 obtain ⟨c,_,rfl⟩:=hr
 rfl
theorem AKX {own:Nat→Prop} (b:ByteArray):∀ i j (hi:i<(aU (dD b)).length) (hj:j<(aU (dD b))[i].length),∃ u,(strCells b)[i*1+j]? = some u∧Rd w own ρ (aU (dD b))[i][j] u:=fun i j hi hj=>by
 have hj0:j=0:=by have:=T6 b _ (List.getElem_mem hi);omega
 subst hj0
 have hi':i<b.data.toList.length:=by simpa [aU,dD] using hi
 refine ⟨.int .u8 (b.data.toList[i].toNat:Int),by simp[strCells] at hi' ⊢;simp[hi'],?_⟩
 have:(aU (dD b))[i][0]=D.p (.v (.int .u8 (b.data.toList[i].toNat:Int))):=by simp[aU,dD]
 rw[this]
 exact .p _ _ (.v _)
theorem AG2 {w:World} {cells:Array Value} {e:TypeId} {o:Nat} {v:Value} (h:cells[o]? = some v):(w.drew.alloc (.cells cells e)).cell? ⟨w.heap.size,o,none⟩=some v:=by
 have:(w.drew.alloc (.cells cells e)).heap[w.heap.size]? = some (.cells cells e):=by show (w.heap.push _)[w.heap.size]? = _;simp
 have e1:∀ W:World,W.heap[w.heap.size]? = some (.cells cells e)→W.cell? ⟨w.heap.size,o,none⟩=some v:=fun W hW=>by simp[World.cell?,hW,h]
 simp_all
theorem p0 {P:Program} {t u ty e:TypeId} {z:Nat} (hu:P.underlying t=some (.slice e)) (hus:P.underlying u=some .string) (hz:tsz? P e=some z) (b:Option Addr) (sLen sCap:Nat) (hle:sLen≤sCap) (s:ByteArray) (h0:s.size=0) (w:World) :
  (Builtin.append_ #[t,u] ty #[.slice b sLen sCap,.string s]).run P w = .ok (.slice b sLen sCap) w:=by
 cases b<;>simp[Builtin.append_,run_underlying hu,run_underlying hus,run_sizeOf? w hz,Builtin.lenOf,Builtin.firstCells,hle,storeCells,h0]
theorem AAD (hI:Inv cx ρ σ n w) {k:Nat} (hk:n≤k) {t u ty:TypeId} {s xd d:D} {x y:Value} {σ':Nat→Option bB} (hs:Rd w (bL cx ρ σ) ρ s x) (hx:Rd w (bL cx ρ σ) ρ xd y)
  (h:uL cx.P σ k t u s xd=some (d,σ')):∃ v w' ρ',(∀ i,i≠k→ρ' i=ρ i)∧(Builtin.append_ #[t,u] ty #[x,y]).run cx.P w = .ok v w'∧Inv cx ρ' σ' (k+1) w'∧bO cx ρ ρ' σ σ' w w'∧Rd w' (bL cx ρ' σ') ρ' d v:=by
 unfold uL at h
 split at h
 ·rename_i _ _ _ e b hel hus
  have hu:=hU hel
  split at h
  ·rename_i _ _ _ z by_ zv hz hby hzv
   split at h
   ·rename_i hok
    obtain ⟨rfl,hzc,hz1⟩:=hok
    have hy:y = .string b:=by
     cases hx with
     | p _ _ hx=>cases hx;rfl
    subst hy
    obtain ⟨i,hi,hi1,hi2,hi3⟩:=WN hz hby hzv
    split at h
    ·rename_i k₀
     split at h
     ·rename_i z' rs hk0
      have hk0':(σ k₀).bind eC=some (aU rs):=by rw[hk0];rfl
      split at h
      ·rename_i hok2
       obtain ⟨rfl,hroom,hroom2⟩:=hok2
       cases h
       have hL:=iS b
       generalize hxs:dD b=xs at hL ⊢
       rw[←hL] at hroom hroom2
       have hnl:(strCells b).length=(aU xs).length*1:=by rw[bU,hL,Nat.mul_one];exact strCells_length b
       have hnr:∀ r∈aU xs,r.length=1:=fun r hr=>by
        subst hxs
        simp only[aU,dD,List.map_map,List.mem_map] at hr
        obtain ⟨c,_,rfl⟩:=hr
        rfl
       have hnd:∀ i j (hi:i<(aU xs).length) (hj:j<(aU xs)[i].length),∃ u,(strCells b)[i*1+j]? = some u∧Rd w (bL cx ρ σ) ρ (aU xs)[i][j] u:=fun i j hi hj=>by
        have hj0:j=0:=by have:=hnr _ (List.getElem_mem hi);omega
        subst hj0
        subst hxs
        have hi':i<b.data.toList.length:=by simpa [aU,dD] using hi
        refine ⟨.int .u8 (b.data.toList[i].toNat:Int),by simp[strCells] at hi' ⊢;simp[hi'],?_⟩
        have:(aU (dD b))[i][0]=D.p (.v (.int .u8 (b.data.toList[i].toNat:Int))):=by simp[aU,dD]
        rw[this]
        exact .p _ _ (.v _)
       have hone:=strCells_oneCell b
       have hbytes:(rs.length+xs.length)*i.bytes≤140737488355328:=by rw[hi2];exact hroom
       cases hs with
       | c0 _ l a hl h0 =>
        have hrs0:rs=[]:=by
         have:=hI.lC hk0' hl
         rw[show l.L=0 by omega] at this
         simpa using this
        subst hrs0
        by_cases hx0:xs=[]
        ·subst hx0
         obtain ⟨g1,g2⟩:=hI.AMD (k₀:=k₀) (ro:=false) (z:=1) h0 hk (fun x hx=>by rw[hk0] at hx;cases hx;rfl)
         exact ⟨_,w,_,fun i hi=>bK _ _ hi,p0 hu hus hz _ _ _ (Nat.le_refl _) b (by simpa using hL.symm) w,g1,g2,.c0 k l a (by simp) h0⟩
        ·have hxpos:0<xs.length:=List.length_pos_iff.2 hx0
         have hmaxc:=grownCap_le_maxLen w (0+xs.length) 0 e (by simp only[maxLen];simp at hroom2;omega)
         have hgec:=grownCap_ge w (0+xs.length) 0 e
         obtain ⟨d1,d2⟩:=hI.drop k₀ (fun x hx=>by rw[hk0] at hx;cases hx;rfl)
         obtain ⟨ρ',w',rfl,g0,g1,g2,g3⟩:=l9 d1 hk (olds:=[]) (news:=aU xs) (x:=.arr false 1 xs) rfl (fun _ _ _ e=>by cases e;rfl) (vo:=[]) (vn:=strCells b) (zv:=zv) (cap:=grownCap w (0+xs.length) 0 e) e (by decide) hzc hz1 (by simp) (by simp) (fun i j hi=>by simp at hi) (by simp)
          hnl hone (fun i j hi hj=>let ⟨u,u1,u2⟩:=hnd i j hi hj;⟨u,u1,d2.rd u2⟩) hnr (by simpa using hxpos) (by simpa using hgec) (by simpa using hroom2) (by simpa using hmaxc)
         simp only[bU,List.length_nil] at g1 g2 g3
         refine ⟨_,_,ρ',g0,?_,g1,d2.trans' g2,g3⟩
         rw[hL] at hxpos hbytes hroom2
         cases a with
         | none =>
          have:=run_append_nil_string (P:=cx.P) w t u ty e i zv hu hus hi hi3 b hxpos (by simp at hroom2;omega) (by simp at hbytes;omega)
          rw[this,hL]
          rw[show (strCells b).toArray=b.data.map (fun c=>Value.int .u8 c.toNat) by apply Array.ext';simp[strCells]]
          simp
         | some a =>
          have:=run_append_grow_string (P:=cx.P) w t u ty e i zv hu hus hi hi3 a 0 0 [] (by simp) (by simp) b (by omega) (by simp at hroom2;omega) (growslice_fits (by simp at hroom2;omega) (by simpa using hbytes))
          rw[←hL] at this
          simpa using this
       | own _ l hl h0 hc1 hc2 =>
        have hLL:=hI.lC hk0' hl
        simp only[bU] at hLL
        have hlz:l.sz=1:=hI.AWC hk0 hl h0
        obtain ⟨c,hheap,hb⟩:=hI.jL hk0' hl h0
        rw[←hLL]
        have hrw':∀ r∈aU rs,r.length=1:=fun r hr=>by rw[hb.width r hr];exact hlz
        have hf:=run_firstCells_string (P:=cx.P) w 1 b
        have hbsz:=hb.size
        have hcnt:=hb.VU
        by_cases hin:rs.length+xs.length≤l.C
        ·have hfit:rs.length*1+(strCells b).length≤c.toList.length:=by
          simp only[Array.length_toList]
          rw[hb.size,hnl,bU,←Nat.add_mul,hlz]
          exact Nat.mul_le_mul_right _ hin
         have hst:=run_storeCells_at cx.P l.bJ (rs.length*1) l.e (strCells b) 0 c w hheap (by simpa using hfit) hone
         rw[I9 _ _ _ hfit] at hst
         have hrun:(Builtin.append_ #[t,u] ty #[.slice (some ⟨l.bJ,0,none⟩) rs.length l.C,.string b]).run cx.P w = .ok (.slice (some ⟨l.bJ,0,none⟩) (rs.length+xs.length) l.C) (w.setRow l.bJ (bP c.toList (rs.length*1) (strCells b)).toArray):=by
          rw[hL] at hin ⊢
          rw[Nat.mul_one] at hst ⊢
          simp[Builtin.append_,run_underlying hu,run_underlying hus,run_sizeOf? w hz,Builtin.lenOf,hin,hf,Addr.add_lit,hst]
         have hcell:∀ p,(bP c.toList (rs.length*1) (strCells b)).toArray[p]? = if rs.length*1≤p∧p<rs.length*1+(strCells b).length then (strCells b)[p-rs.length*1]? else c[p]? := by
          intro p
          simp only[List.getElem?_toArray]
          rw[jF _ _ _ _ hfit]
          simp
         have hsl:(strCells b).length=xs.length*1:=by simpa using hnl
         have hnew:dV w (bL cx ρ σ) ρ ⟨l.bJ,l.sz,l.C,l.e,rs.length+xs.length⟩ (.cells (bP c.toList (rs.length*1) (strCells b)).toArray l.e (0,0)) (.arr false 1 (rs++xs)):=by
          refine dV.rows (l:=⟨l.bJ,l.sz,l.C,l.e,rs.length+xs.length⟩) (.arr false 1 (rs++xs)) (aU rs++aU xs) _ (by simp[eC,aU]) (fun _ _ _ e=>by cases e;exact hlz) ⟨by simpa using hbsz,hb.pos,by simpa using hroom2,by simpa using hin,by simp,fun r hr=>?_,fun i' j' hi' hj'=>?_,fun p v hp=>?_⟩
          ·rcases List.mem_append.1 hr with h|h
           ·exact hb.width r h
           ·exact (hnr r h).trans hlz.symm
          ·rw[hcell]
           simp at hi'
           by_cases h1:i'<rs.length
           ·have h1':i'<(aU rs).length:=by simpa using h1
            simp only[List.getElem_append_left h1'] at hj' ⊢
            have hw':=hb.width _ (List.getElem_mem h1')
            have:=fQ (m:=1) (j:=j') h1 (by omega:j'+1≤l.sz)
            rw[hlz] at this
            show ∃ v,(if rs.length*1≤i'*l.sz+j'∧i'*l.sz+j'<rs.length*1+(strCells b).length then _ else c[i'*l.sz+j']?)=some v∧_
            rw[if_neg (by rw[hlz];omega)]
            exact hb.cell i' j' h1' hj'
           ·have h2:i'-rs.length<xs.length:=by omega
            have h2':i'-(aU rs).length<(aU xs).length:=by simpa using h2
            simp only[List.getElem_append_right (show (aU rs).length≤i' by simp;omega)] at hj' ⊢
            have hw':=hnr _ (List.getElem_mem h2')
            have:=fQ (m:=1) (j:=j') h2 (by omega:j'+1≤1)
            have e3:i'*1=rs.length*1+(i'-rs.length)*1:=by rw[←Nat.add_mul];congr 1;omega
            show ∃ v,(if rs.length*1≤i'*l.sz+j'∧i'*l.sz+j'<rs.length*1+(strCells b).length then (strCells b)[i'*l.sz+j'-rs.length*1]? else _)=some v∧_
            rw[hlz,if_pos (by omega),show i'*1+j'-rs.length*1=(i'-rs.length)*1+j' by omega]
            have:=hnd (i'-(aU rs).length) j' h2' hj'
            simpa using this
          ·rw[hcell] at hp
           split at hp
           ·exact hone v (List.mem_of_getElem? hp)
           ·exact hb.one p v hp
         obtain ⟨g1,g2⟩:=hI.move (k:=k) (w':=w.setRow l.bJ (bP c.toList (rs.length*1) (strCells b)).toArray) (l2:=⟨l.bJ,l.sz,l.C,l.e,rs.length+xs.length⟩) hk0 hl h0 rfl hk rfl (by show 0<rs.length+xs.length+l.C;omega) _ rfl rfl rfl (by simp) (setRow_heap w l.bJ c _ l.e (0,0) hheap) (fun b hne=>setRow_other w l.bJ b _ hne) (zU hheap (setRow_heap w l.bJ c _ l.e (0,0) hheap) (by simp)) hnew
         refine ⟨_,_,_,fun i hi=>bK _ _ hi,hrun,g1,g2,?_⟩
         exact .own k ⟨l.bJ,l.sz,l.C,l.e,rs.length+xs.length⟩ (by simp) (by show 0<rs.length+xs.length+l.C;omega) hin hc2
        ·by_cases hr0:rs=[]
         ·subst hr0
          have hgec:=grownCap_ge w (0+xs.length) l.C e
          have hmaxc:=grownCap_le_maxLen w (0+xs.length) l.C e (by simp only[maxLen];simp at hroom2;omega)
          obtain ⟨d1,d2⟩:=hI.drop k₀ (fun x hx=>by rw[hk0] at hx;cases hx;rfl)
          obtain ⟨ρ',w',rfl,g0,g1,g2,g3⟩:=l9 d1 hk (olds:=[]) (news:=aU xs) (x:=.arr false 1 ([]++xs)) rfl (fun _ _ _ e=>by cases e;rfl) (vo:=[]) (vn:=strCells b) (zv:=zv) (cap:=grownCap w (0+xs.length) l.C e) e (by decide) hzc hz1 (by simp) (by simp) (fun i j hi=>by simp at hi) (by simp)
           hnl hone (fun i j hi hj=>let ⟨u,u1,u2⟩:=hnd i j hi hj;⟨u,u1,d2.rd u2⟩) hnr (by simp at hin;simp;omega) (by simpa using hgec) (by simpa using hroom2) (by simpa using hmaxc)
          simp only[bU,List.length_nil] at g1 g2 g3
          refine ⟨_,_,ρ',g0,?_,g1,d2.trans' g2,g3⟩
          rw[hL] at hbytes hin hroom2
          have:=run_append_grow_string (P:=cx.P) w t u ty e i zv hu hus hi hi3 ⟨l.bJ,0,none⟩ 0 l.C [] (by simp) (by simp) b (by simp at hin;omega) (by simp at hroom2;omega) (growslice_fits (by simp at hin;omega) (by simpa using hbytes))
          rw[←hL] at this
          simpa using this
         obtain ⟨xa',xc',hxe,_,_,hosrc⟩:=pS hI (d:=.own k₀) (rows:=aU rs) (z:=1) (.own _ l hl h0 hc1 hc2) (by simp[J2,hk0,eC]) (List.all_eq_true.2 fun r hr=>by simpa using hrw' r hr)
         obtain ⟨_,ob,oo,olds,hoe,hos⟩:=hosrc (by simpa using hr0)
         injection hxe with hxe1 hxe2 hxe3
         rw[hoe] at hxe1
         have hgec:=grownCap_ge w (rs.length+xs.length) l.C e
         have hmaxc:=grownCap_le_maxLen w (rs.length+xs.length) l.C e (by simp only[maxLen];omega)
         obtain ⟨d1,d2⟩:=hI.drop k₀ (fun x hx=>by rw[hk0] at hx;cases hx;rfl)
         obtain ⟨ρ',w',rfl,g0,g1,g2,g3⟩:=l9 d1 hk (olds:=aU rs) (news:=aU xs) (x:=.arr false 1 (rs++xs)) (by simp[eC,aU]) (fun _ _ _ e=>by cases e;rfl) (vo:=olds) (vn:=strCells b) (zv:=zv) (cap:=grownCap w (rs.length+xs.length) l.C e) e (by decide) hzc hz1
          hos.len hos.one (fun i j hi hj=>let ⟨u,u1,u2⟩:=hos.rd i j hi hj;⟨u,u1,d2.rd u2⟩) hrw'
          hnl hone (fun i j hi hj=>let ⟨u,u1,u2⟩:=hnd i j hi hj;⟨u,u1,d2.rd u2⟩) hnr (by simp;omega) (by simpa using hgec) (by simpa using hroom2) hmaxc
         simp only[bU] at g1 g2 g3
         refine ⟨_,_,ρ',g0,?_,g1,d2.trans' g2,g3⟩
         rw[hL] at hbytes hin hroom2
         have:=run_append_grow_string (P:=cx.P) w t u ty e i zv hu hus hi hi3 ⟨ob,oo,none⟩ rs.length l.C olds (by rw[hi1];simpa using hos.len) hos.add b (by omega) (by omega) (growslice_fits (by omega) hbytes)
         rw[←hL] at this
         rw[hxe1]
         exact this
      ·cases h
     ·cases h
    ·rename_i st
     split at h
     ·rename_i _ r0 jL hrows
      generalize hrr:r0::jL=rows at hrows h
      have hrne:rows≠[]:=by rw[←hrr];simp
      cases hs with
      | p _ _ hs =>
      have hsl:=lD hs hrows
      obtain ⟨xa,xc,rfl,hc1,hc2,hc3⟩:=hsl.isSlice
      have hcap:=hc2 rfl
      subst hcap
      split at h
      ·rename_i h0
       cases h
       exact ⟨_,w,ρ,fun _ _=>rfl,p0 hu hus hz _ _ _ hc1 b h0 w,hI.grow (Below.refl _ _) (by omega),bO.refl _ _ _ _,.p _ _ hs⟩
      ·rename_i h0
       split at h
       ·rename_i hok2
        obtain ⟨hrw,hroom,hroom2⟩:=hok2
        cases h
        replace hrw:(aU rows).all (fun r=>decide (r.length=1))=true:=by simpa [aU,fE,List.all_map,Function.comp_def] using hrw
        have hrw':∀ r∈aU rows,r.length=1:=fun r hr=>by simpa using List.all_eq_true.1 hrw r hr
        have hbytes:(rows.length+b.size)*i.bytes≤140737488355328:=by rw[hi2];exact hroom
        obtain ⟨xa',xc',hxe,_,_,hosrc⟩:=pS hI (d:=.p st) (x:=.slice xa rows.length rows.length) (rows:=aU rows) (z:=1) (.p _ _ hs) (by simp[J2,hrows]) hrw
        obtain ⟨_,ob,oo,olds,hoe,hos⟩:=hosrc (by simpa using hrne)
        injection hxe with hxe1 hxe2 hxe3
        rw[hoe] at hxe1
        subst hxe1
        have hgec:=grownCap_ge w (rows.length+b.size) rows.length e
        have hnl:(strCells b).length=(aU (dD b)).length*1:=by rw[bU,iS,Nat.mul_one];exact strCells_length b
        have hb:=S5 (w:=w) (own:=bL cx ρ σ) (ρ:=ρ) (olds:=aU rows) (news:=aU (dD b)) (vo:=olds) (vn:=strCells b) (z:=zv) (cap:=grownCap w (rows.length+b.size) rows.length e) e w.heap.size (by decide) hzc hz1 hos.len hos.one hos.rd hrw'
         hnl (strCells_oneCell b) (AKX b) (T6 b) (by rw[bU,bU,iS];exact hgec) (by rw[bU,bU,iS];exact hroom2)
        rw[show aU rows++aU (dD b)=aU (rows++dD b) by simp[aU]] at hb
        simp only[bU,iS] at hb
        generalize hcs:olds.toArray++(strCells b).toArray++Builtin.zeroCells zv.cells (grownCap w (rows.length+b.size) rows.length e-(rows.length+b.size))=cells at hb
        have hd:Below w.heap.size w (w.drew.alloc (.cells cells e)):=((Below.refl _ _).drew).alloc (Nat.le_refl _) _
        have hll:(rows++dD b).length=rows.length+b.size:=by rw[List.length_append,iS]
        refine ⟨.slice (some ⟨w.heap.size,0,none⟩) (rows.length+b.size) (grownCap w (rows.length+b.size) rows.length e),w.drew.alloc (.cells cells e),ρ,fun _ _=>rfl,?_,hI.grow hd (by omega),bO.gV hd,.p _ _ ?_⟩
        ·have:=run_append_grow_string (P:=cx.P) w t u ty e i zv hu hus hi hi3 ⟨ob,oo,none⟩ rows.length rows.length olds (by rw[hi1];simpa using hos.len) hos.add b (by omega) (by omega) (growslice_fits (by omega) hbytes)
         rw[hcs] at this
         exact this
        ·rw[←hll]
         have hcl:∀ i' j',i'<(rows++dD b).length→j'<1→∃ v,cells[i'*1+j']? = some v∧(∀ (hi':i'<(rows++dD b).length) (hj':j'<(rows++dD b)[i'].length),cN w (bL cx ρ σ) (rows++dD b)[i'][j'] v):=fun i' j' hi' hj'=>by
          have hw1:((aU (rows++dD b))[i']'(by simpa using hi')).length=1:=hb.width _ (List.getElem_mem _)
          obtain ⟨v,v1,v2⟩:=hb.cell i' j' (by simpa using hi') (by omega)
          refine ⟨v,v1,fun h1 h2=>?_⟩
          simp only[aU,List.getElem_map] at v2
          cases v2 with
          | p _ _ v2=>exact v2
         refine cN.sl false (rows++dD b) 1 w.heap.size 0 _ (fun i' j'=>cells.getD (i'*1+j') undef) (by rw[hll];exact hgec) (by rw[hll];exact hroom2) (fun h=>by cases h) (fun h=>Nat.lt_irrefl _ (bL.lt hI h)) (by show w.heap.size<(w.heap.push _).size;simp) (fun r hr=>?_) (by decide) (fun i' j' hi' hj'=>?_) (fun i' j' hi' hj'=>?_)
         ·have:=hb.width (r.map D.p) (by simp only[aU];exact List.mem_map_of_mem hr)
          simpa using this
         ·obtain ⟨v,v1,_⟩:=hcl i' j' hi' hj'
          have e1:cells.getD (i'*1+j') undef=v:=by rw[Array.getD_eq_getD_getElem?,v1];rfl
          rw[e1,Nat.zero_add]
          exact ⟨AG2 v1,hb.one _ v v1⟩
         ·have hj1:j'<1:=by
           have:=hb.width ((rows++dD b)[i'].map D.p) (by simp only[aU];exact List.mem_map_of_mem (List.getElem_mem hi'))
           simp at this;omega
          obtain ⟨v,v1,v2⟩:=hcl i' j' hi' hj1
          have e1:cells.getD (i'*1+j') undef=v:=by rw[Array.getD_eq_getD_getElem?,v1];rfl
          rw[e1]
          exact (v2 hi' hj').mono (fun b _ hlt=>hd.block b hlt) hd.size (fun _ _ h=>h)
       ·cases h
     ·cases h
    ·cases h
   ·cases h
  ·cases h
 ·cases h
theorem JF (hI:Inv cx ρ σ n w) {k:Nat} (hk:n≤k) {t u ty:TypeId} {s xd d:D} {x y:Value} {σ':Nat→Option bB} (hs:Rd w (bL cx ρ σ) ρ s x) (hx:Rd w (bL cx ρ σ) ρ xd y)
  (h:jB cx.P σ k t u s xd=some (d,σ')):∃ v w' ρ',(∀ i,i≠k→ρ' i=ρ i)∧(Builtin.append_ #[t,u] ty #[x,y]).run cx.P w = .ok v w'∧Inv cx ρ' σ' (k+1) w'∧bO cx ρ ρ' σ σ' w w'∧Rd w' (bL cx ρ' σ') ρ' d v:=by
 unfold jB at h
 split at h
 ·rename_i htu
  subst htu
  split at h
  ·rename_i e hel
   have hu:=hU hel
   split at h
   ·rename_i _ _ _ _ z by_ zv xs hz hby hzv hxs
    split at h
    ·rename_i hok
     obtain ⟨hz0,hzc,hz1,hxw⟩:=hok
     replace hxw:(aU xs).all (fun r=>decide (r.length=z))=true:=by simpa [aU,fE,List.all_map,Function.comp_def] using hxw
     have hxw':∀ r∈aU xs,r.length=z:=fun r hr=>by simpa using List.all_eq_true.1 hxw r hr
     obtain ⟨i,hi,hi1,hi2,hi3⟩:=WN hz hby hzv
     obtain ⟨ya,yc,rfl,hylen,hyc,hysrc⟩:=pS hI hx (J3 hxs) hxw
     simp only[bU] at hylen hyc hysrc ⊢
     split at h
     ·rename_i st
      split at h
      ·rename_i full hrows
       cases hs with
       | p _ _ hs =>
       have hsl:=lD hs hrows
       obtain ⟨xa,xc,rfl,hc1,hc2,hc3⟩:=hsl.isSlice
       split at h
       ·rename_i hok2
        obtain ⟨hfull,hroom,hroom2⟩:=hok2
        have hcap:=hc2 hfull
        simp only[List.length_nil] at hcap
        subst hcap
        cases h
        by_cases hx0:xs=[]
        ·subst hx0
         obtain ⟨g1,g2⟩:=hI.lW hk ⟨0,z,0,e,0⟩ (.arr false z []) (Below.refl _ _) (fun h=>by simp at h) ⟨fun h=>by simp at h,fun _=>⟨_,_,rfl⟩⟩
         exact ⟨_,w,_,fun i hi=>bK _ _ hi,mJ hu hz _ _ _ _ _ hc1 w,g1,g2,.c0 k ⟨0,z,0,e,0⟩ xa (by simp) rfl⟩
        ·obtain ⟨_,yb,yo,news,rfl,hsrc⟩:=hysrc (by simpa using hx0)
         have hxpos:0<xs.length:=List.length_pos_iff.2 hx0
         have hbytes:(0+xs.length)*i.bytes≤140737488355328:=by rw[hi2];simpa using hroom
         have hmaxc:=grownCap_le_maxLen w (0+xs.length) 0 e (by simp only[maxLen];omega)
         have hgec:=grownCap_ge w (0+xs.length) 0 e
         obtain ⟨ρ',w',rfl,g0,g1,g2,g3⟩:=l9 hI hk (olds:=[]) (news:=aU xs) (x:=.arr false z xs) rfl (fun _ _ _ e=>by cases e;rfl) (vo:=[]) (vn:=news) (zv:=zv) (cap:=grownCap w (0+xs.length) 0 e) e hz0 hzc hz1 (by simp) (by simp) (fun i j hi=>by simp at hi) (by simp)
          hsrc.len hsrc.one hsrc.rd hxw' (by simpa using hxpos) (by simpa using hgec) (by simpa using hroom2) (by simpa using hmaxc)
         simp only[bU,List.length_nil] at g1 g2 g3
         refine ⟨_,_,ρ',g0,?_,g1,g2,g3⟩
         cases xa with
         | none =>
          have:=run_append_nil (P:=cx.P) w t ty e i zv hu hi hi3 ⟨yb,yo,none⟩ xs.length yc news (by rw[hi1];simpa using hsrc.len) hsrc.add hxpos (by omega) (by simp at hbytes;omega)
          simpa using this
         | some xa =>
          have:=run_append_grow (P:=cx.P) w t ty e i zv hu hi hi3 xa 0 0 [] (by simp) (by simp) ⟨yb,yo,none⟩ xs.length yc news (by rw[hi1];simpa using hsrc.len) hsrc.add (by omega) (by omega) (growslice_fits (by omega) (by simpa using hbytes))
          simpa using this
       ·cases h
      ·rename_i full r0 jL hrows
       generalize hrr:r0::jL=rows at hrows h
       have hrne:rows≠[]:=by rw[←hrr];simp
       cases hs with
       | p _ _ hs =>
       have hsl:=lD hs hrows
       obtain ⟨xa,xc,rfl,hc1,hc2,hc3⟩:=hsl.isSlice
       by_cases hx0:xs=[]
       ·subst hx0
        cases h
        exact ⟨_,w,ρ,fun _ _=>rfl,mJ hu hz _ _ _ _ _ hc1 w,hI.grow (Below.refl _ _) (by omega),bO.refl _ _ _ _,.p _ _ hs⟩
       ·obtain ⟨x0,xs0,hxe⟩:=List.exists_cons_of_ne_nil hx0
        rw[hxe] at h
        simp only[] at h
        rw[←hxe] at h
        split at h
        ·rename_i hok2
         obtain ⟨hfull,hrw,hroom,hroom2⟩:=hok2
         replace hrw:(aU rows).all (fun r=>decide (r.length=z))=true:=by simpa [aU,fE,List.all_map,Function.comp_def] using hrw
         cases h
         obtain ⟨_,yb,yo,news,rfl,hsrc⟩:=hysrc (by simpa using hx0)
         have hcap:=hc2 hfull
         subst hcap
         have hxpos:0<xs.length:=List.length_pos_iff.2 hx0
         have hrw':∀ r∈aU rows,r.length=z:=fun r hr=>by simpa using List.all_eq_true.1 hrw r hr
         have hbytes:(rows.length+xs.length)*i.bytes≤140737488355328:=by rw[hi2];exact hroom
         have hmaxc:=grownCap_le_maxLen w (rows.length+xs.length) rows.length e (by simp only[maxLen];omega)
         have hgec:=grownCap_ge w (rows.length+xs.length) rows.length e
         obtain ⟨xa',xc',hxe,_,_,hosrc⟩:=pS hI (d:=.p st) (x:=.slice xa rows.length rows.length) (rows:=aU rows) (z:=z) (.p _ _ hs) (by simp[J2,hrows]) hrw
         obtain ⟨_,ob,oo,olds,hoe,hos⟩:=hosrc (by simpa using hrne)
         injection hxe with hxe1 hxe2 hxe3
         rw[hoe] at hxe1
         subst hxe1
         have hol:olds.length=rows.length*z:=by have:=hos.len;simpa using this
         obtain ⟨ρ',w',rfl,g0,g1,g2,g3⟩:=l9 hI hk (olds:=aU rows) (news:=aU xs) (x:=.arr false z (rows++xs)) (by simp[eC,aU]) (fun _ _ _ e=>by cases e;rfl) (vo:=olds) (vn:=news) (zv:=zv) (cap:=grownCap w (rows.length+xs.length) rows.length e) e hz0 hzc hz1 hos.len hos.one hos.rd hrw'
          hsrc.len hsrc.one hsrc.rd hxw' (by simp;omega) (by simpa using hgec) (by simpa using hroom2) hmaxc
         simp only[bU] at g1 g2 g3
         refine ⟨_,_,ρ',g0,?_,g1,g2,by simpa using g3⟩
         have:=run_append_grow (P:=cx.P) w t ty e i zv hu hi hi3 ⟨ob,oo,none⟩ rows.length rows.length olds (by rw[hi1];exact hol) hos.add ⟨yb,yo,none⟩ xs.length yc news (by rw[hi1];simpa using hsrc.len) hsrc.add (by omega) (by omega) (growslice_fits (by omega) hbytes)
         simpa using this
        ·cases h
      ·cases h
     ·rename_i k₀
      split at h
      ·rename_i z' rs hk0
       have hk0':(σ k₀).bind eC=some (aU rs):=by rw[hk0];rfl
       split at h
       ·rename_i hok2
        obtain ⟨hzz,hroom,hroom2⟩:=hok2
        subst hzz
        cases h
        have hbytes:(rs.length+xs.length)*i.bytes≤140737488355328:=by rw[hi2];exact hroom
        cases hs with
        | c0 _ l a hl h0 =>
         have hrs0:rs=[]:=by
          have:=hI.lC hk0' hl
          rw[show l.L=0 by omega] at this
          simpa using this
         subst hrs0
         by_cases hx0:xs=[]
         ·subst hx0
          obtain ⟨g1,g2⟩:=hI.AMD (k₀:=k₀) (ro:=false) (z:=z') h0 hk (fun x hx=>by rw[hk0] at hx;cases hx;rfl)
          exact ⟨_,w,_,fun i hi=>bK _ _ hi,mJ hu hz _ _ _ _ _ (Nat.le_refl _) w,g1,g2,.c0 k l a (by simp) h0⟩
         ·obtain ⟨_,yb,yo,news,rfl,hsrc⟩:=hysrc (by simpa using hx0)
          have hxpos:0<xs.length:=List.length_pos_iff.2 hx0
          have hmaxc:=grownCap_le_maxLen w (0+xs.length) 0 e (by simp only[maxLen];simp at hroom2;omega)
          have hgec:=grownCap_ge w (0+xs.length) 0 e
          obtain ⟨d1,d2⟩:=hI.drop k₀ (fun x hx=>by rw[hk0] at hx;cases hx;rfl)
          obtain ⟨ρ',w',rfl,g0,g1,g2,g3⟩:=l9 d1 hk (olds:=[]) (news:=aU xs) (x:=.arr false z' xs) rfl (fun _ _ _ e=>by cases e;rfl) (vo:=[]) (vn:=news) (zv:=zv) (cap:=grownCap w (0+xs.length) 0 e) e hz0 hzc hz1 (by simp) (by simp) (fun i j hi=>by simp at hi) (by simp)
           hsrc.len hsrc.one (fun i j hi hj=>let ⟨u,u1,u2⟩:=hsrc.rd i j hi hj;⟨u,u1,d2.rd u2⟩) hxw' (by simpa using hxpos) (by simpa using hgec) (by simpa using hroom2) (by simpa using hmaxc)
          simp only[bU,List.length_nil] at g1 g2 g3
          refine ⟨_,_,ρ',g0,?_,g1,d2.trans' g2,g3⟩
          cases a with
          | none =>
           have:=run_append_nil (P:=cx.P) w t ty e i zv hu hi hi3 ⟨yb,yo,none⟩ xs.length yc news (by rw[hi1];simpa using hsrc.len) hsrc.add hxpos (by omega) (by simp at hbytes;omega)
           simpa using this
          | some a =>
           have:=run_append_grow (P:=cx.P) w t ty e i zv hu hi hi3 a 0 0 [] (by simp) (by simp) ⟨yb,yo,none⟩ xs.length yc news (by rw[hi1];simpa using hsrc.len) hsrc.add (by omega) (by omega) (growslice_fits (by omega) (by simpa using hbytes))
           simpa using this
        | own _ l hl h0 hc1 hc2 =>
         have hL:=hI.lC hk0' hl
         simp only[bU] at hL
         have hlz:l.sz=z':=hI.AWC hk0 hl h0
         obtain ⟨c,hheap,hb⟩:=hI.jL hk0' hl h0
         rw[←hL]
         by_cases hx0:xs=[]
         ·subst hx0
          obtain ⟨g1,g2⟩:=hI.move (k:=k) (l2:=l) (x:=.arr false z' (rs++[])) hk0 hl h0 rfl hk rfl h0 (.cells c l.e (0,0)) rfl rfl rfl rfl hheap (fun _ _=>rfl) (fun _ h=>h) (.rows _ _ c (by simp[eC]) (fun _ _ _ e=>by cases e;exact hlz) hb)
          refine ⟨_,w,_,fun i hi=>bK _ _ hi,mJ hu hz _ _ _ _ _ (by omega) w,g1,g2,?_⟩
          rw[hL]
          exact .own k l (by simp) h0 hc1 hc2
         ·obtain ⟨_,yb,yo,news,rfl,hsrc⟩:=hysrc (by simpa using hx0)
          have hxpos:0<xs.length:=List.length_pos_iff.2 hx0
          have hsl:news.length=xs.length*z':=by simpa using hsrc.len
          have hrw':∀ r∈aU rs,r.length=z':=fun r hr=>by rw[hb.width r hr];exact hlz
          have hf:=run_firstCells_some (P:=cx.P) w z' xs.length ⟨yb,yo,none⟩ xs.length yc news hsl hsrc.add
          have hbsz:=hb.size
          have hcnt:=hb.VU
          by_cases hin:rs.length+xs.length≤l.C
          ·have hfit:rs.length*z'+news.length≤c.toList.length:=by
            simp only[Array.length_toList]
            rw[hb.size,hsl,←Nat.add_mul,hlz]
            exact Nat.mul_le_mul_right _ hin
           have hst:=run_storeCells_at cx.P l.bJ (rs.length*z') l.e news 0 c w hheap (by simpa using hfit) hsrc.one
           rw[I9 _ _ _ hfit] at hst
           have hrun:(Builtin.append_ #[t,t] ty #[.slice (some ⟨l.bJ,0,none⟩) rs.length l.C,.slice (some ⟨yb,yo,none⟩) xs.length yc]).run cx.P w = .ok (.slice (some ⟨l.bJ,0,none⟩) (rs.length+xs.length) l.C) (w.setRow l.bJ (bP c.toList (rs.length*z') news).toArray):=by
            simp[Builtin.append_,run_underlying hu,run_sizeOf? w hz,Builtin.lenOf,hin,hf,Addr.add_lit,hst]
           have hcell:∀ p,(bP c.toList (rs.length*z') news).toArray[p]? = if rs.length*z'≤p∧p<rs.length*z'+news.length then news[p-rs.length*z']? else c[p]? := by
            intro p
            simp only[List.getElem?_toArray]
            rw[jF _ _ _ _ hfit]
            simp
           have hnew:dV w (bL cx ρ σ) ρ ⟨l.bJ,l.sz,l.C,l.e,rs.length+xs.length⟩ (.cells (bP c.toList (rs.length*z') news).toArray l.e (0,0)) (.arr false z' (rs++xs)):=by
            refine dV.rows (l:=⟨l.bJ,l.sz,l.C,l.e,rs.length+xs.length⟩) (.arr false z' (rs++xs)) (aU rs++aU xs) _ (by simp[eC,aU]) (fun _ _ _ e=>by cases e;exact hlz) ⟨by simpa using hbsz,hb.pos,by simpa using hroom2,by simpa using hin,by simp,fun r hr=>?_,fun i' j' hi' hj'=>?_,fun p v hp=>?_⟩
            ·rcases List.mem_append.1 hr with h|h
             ·exact hb.width r h
             ·exact (hxw' r h).trans hlz.symm
            ·rw[hcell]
             simp at hi'
             by_cases h1:i'<rs.length
             ·have h1':i'<(aU rs).length:=by simpa using h1
              simp only[List.getElem_append_left h1'] at hj' ⊢
              have hw':=hb.width _ (List.getElem_mem h1')
              have:=fQ (m:=1) (j:=j') h1 (by omega:j'+1≤l.sz)
              rw[hlz] at this
              show ∃ v,(if rs.length*z'≤i'*l.sz+j'∧i'*l.sz+j'<rs.length*z'+news.length then _ else c[i'*l.sz+j']?)=some v∧_
              rw[if_neg (by rw[hlz];omega)]
              exact hb.cell i' j' h1' hj'
             ·have h2:i'-rs.length<xs.length:=by omega
              have h2':i'-(aU rs).length<(aU xs).length:=by simpa using h2
              simp only[List.getElem_append_right (show (aU rs).length≤i' by simp;omega)] at hj' ⊢
              have hw':=hxw' _ (List.getElem_mem h2')
              have:=fQ (m:=1) (j:=j') h2 (by omega:j'+1≤z')
              have e3:i'*z'=rs.length*z'+(i'-rs.length)*z':=by rw[←Nat.add_mul];congr 1;omega
              show ∃ v,(if rs.length*z'≤i'*l.sz+j'∧i'*l.sz+j'<rs.length*z'+news.length then news[i'*l.sz+j'-rs.length*z']? else _)=some v∧_
              rw[hlz,if_pos (by omega),show i'*z'+j'-rs.length*z'=(i'-rs.length)*z'+j' by omega]
              have:=hsrc.rd (i'-(aU rs).length) j' h2' hj'
              simpa using this
            ·rw[hcell] at hp
             split at hp
             ·exact hsrc.one v (List.mem_of_getElem? hp)
             ·exact hb.one p v hp
           obtain ⟨g1,g2⟩:=hI.move (k:=k) (w':=w.setRow l.bJ (bP c.toList (rs.length*z') news).toArray) (l2:=⟨l.bJ,l.sz,l.C,l.e,rs.length+xs.length⟩) hk0 hl h0 rfl hk rfl (by show 0<rs.length+xs.length+l.C;omega) _ rfl rfl rfl (by simp) (setRow_heap w l.bJ c _ l.e (0,0) hheap) (fun b hne=>setRow_other w l.bJ b _ hne) (zU hheap (setRow_heap w l.bJ c _ l.e (0,0) hheap) (by simp)) hnew
           refine ⟨_,_,_,fun i hi=>bK _ _ hi,hrun,g1,g2,?_⟩
           exact .own k ⟨l.bJ,l.sz,l.C,l.e,rs.length+xs.length⟩ (by simp) (by show 0<rs.length+xs.length+l.C;omega) hin hc2
          ·by_cases hr0:rs=[]
           ·subst hr0
            have hgec:=grownCap_ge w (0+xs.length) l.C e
            have hmaxc:=grownCap_le_maxLen w (0+xs.length) l.C e (by simp only[maxLen];simp at hroom2;omega)
            obtain ⟨d1,d2⟩:=hI.drop k₀ (fun x hx=>by rw[hk0] at hx;cases hx;rfl)
            obtain ⟨ρ',w',rfl,g0,g1,g2,g3⟩:=l9 d1 hk (olds:=[]) (news:=aU xs) (x:=.arr false z' ([]++xs)) rfl (fun _ _ _ e=>by cases e;rfl) (vo:=[]) (vn:=news) (zv:=zv) (cap:=grownCap w (0+xs.length) l.C e) e hz0 hzc hz1 (by simp) (by simp) (fun i j hi=>by simp at hi) (by simp)
             hsrc.len hsrc.one (fun i j hi hj=>let ⟨u,u1,u2⟩:=hsrc.rd i j hi hj;⟨u,u1,d2.rd u2⟩) hxw' (by simpa using hxpos) (by simpa using hgec) (by simpa using hroom2) (by simpa using hmaxc)
            simp only[bU,List.length_nil] at g1 g2 g3
            refine ⟨_,_,ρ',g0,?_,g1,d2.trans' g2,g3⟩
            have:=run_append_grow (P:=cx.P) w t ty e i zv hu hi hi3 ⟨l.bJ,0,none⟩ 0 l.C [] (by simp) (by simp) ⟨yb,yo,none⟩ xs.length yc news (by rw[hi1];exact hsl) hsrc.add (by simp at hin;omega) (by simp at hin;omega) (growslice_fits (by simp at hin;omega) (by simpa using hbytes))
            simpa using this
           obtain ⟨xa',xc',hxe,_,_,hosrc⟩:=pS hI (d:=.own k₀) (rows:=aU rs) (z:=z') (.own _ l hl h0 hc1 hc2) (by simp[J2,hk0,eC]) (List.all_eq_true.2 fun r hr=>by simpa using hrw' r hr)
           obtain ⟨_,ob,oo,olds,hoe,hos⟩:=hosrc (by simpa using hr0)
           injection hxe with hxe1 hxe2 hxe3
           rw[hoe] at hxe1
           have hgec:=grownCap_ge w (rs.length+xs.length) l.C e
           have hmaxc:=grownCap_le_maxLen w (rs.length+xs.length) l.C e (by simp only[maxLen];omega)
           obtain ⟨d1,d2⟩:=hI.drop k₀ (fun x hx=>by rw[hk0] at hx;cases hx;rfl)
           obtain ⟨ρ',w',rfl,g0,g1,g2,g3⟩:=l9 d1 hk (olds:=aU rs) (news:=aU xs) (x:=.arr false z' (rs++xs)) (by simp[eC,aU]) (fun _ _ _ e=>by cases e;rfl) (vo:=olds) (vn:=news) (zv:=zv) (cap:=grownCap w (rs.length+xs.length) l.C e) e hz0 hzc hz1
            hos.len hos.one (fun i j hi hj=>let ⟨u,u1,u2⟩:=hos.rd i j hi hj;⟨u,u1,d2.rd u2⟩) hrw'
            hsrc.len hsrc.one (fun i j hi hj=>let ⟨u,u1,u2⟩:=hsrc.rd i j hi hj;⟨u,u1,d2.rd u2⟩) hxw' (by simp;omega) (by simpa using hgec) (by simpa using hroom2) hmaxc
           simp only[bU] at g1 g2 g3
           refine ⟨_,_,ρ',g0,?_,g1,d2.trans' g2,g3⟩
           have:=run_append_grow (P:=cx.P) w t ty e i zv hu hi hi3 ⟨ob,oo,none⟩ rs.length l.C olds (by rw[hi1];simpa using hos.len) hos.add ⟨yb,yo,none⟩ xs.length yc news (by rw[hi1];exact hsl) hsrc.add (by omega) (by omega) (growslice_fits (by omega) hbytes)
           rw[hxe1]
           exact this
       ·cases h
      ·cases h
     ·cases h
    ·cases h
   ·cases h
  ·cases h
 ·exact AAD hI hk hs hx h
theorem AGV (hI:Inv cx ρ σ n w) {k:Nat} (hk:n≤k) {t u ty:TypeId} {s xd d:D} {x y:Value} {σ':Nat→Option bB} (hs:Rd w (bL cx ρ σ) ρ s x) (hx:Rd w (bL cx ρ σ) ρ xd y)
  (h:jB cx.P σ k t u s xd=some (d,σ')):∃ v w' ρ',(Builtin.append_ #[t,u] ty #[x,y]).run cx.P w = .ok v w'∧Inv cx ρ' σ' (k+1) w'∧bO cx ρ ρ' σ σ' w w'∧Rd w' (bL cx ρ' σ') ρ' d v:=by
 obtain ⟨v,w',ρ',_,h⟩:=JF (ty:=ty) hI hk hs hx h
 exact ⟨v,w',ρ',h⟩
def R5 (P:Program) (σ:Nat→Option bB) (t:TypeId) (d s:D):Option (D×(Nat→Option bB)) :=
 match l6 P t with
 | some e =>
  match tsz? P e,H8 σ s,d with
  | some z,some xs,.own k₀ =>
   match σ k₀ with
   | some (.arr false z' rs)=>if z'=z∧xs.length=rs.length∧0<xs.length∧fE z xs=true then some (.p (.v (.int .i64 (xs.length:Int))),bY σ k₀ (some (.arr false z xs))) else none
   | _=>none
  | _,_,_=>none
 | none=>none
theorem AWU (hI:Inv cx ρ σ n w) {t u ty:TypeId} {s xd d:D} {x y:Value} {σ':Nat→Option bB} (hs:Rd w (bL cx ρ σ) ρ s x) (hx:Rd w (bL cx ρ σ) ρ xd y)
  (h:R5 cx.P σ t s xd=some (d,σ')):∃ v w',(Builtin.copy_ #[t,u] ty #[x,y]).run cx.P w = .ok v w'∧Inv cx ρ σ' (n+1) w'∧bO cx ρ ρ σ σ' w w'∧Rd w' (bL cx ρ σ') ρ d v:=by
 unfold R5 at h
 split at h
 case h_2=>cases h
 rename_i e hel
 have hu:=hU hel
 split at h
 case h_2=>cases h
 rename_i _ _ _ z xs k₀ hz hxs
 split at h
 case h_2=>cases h
 rename_i z' rs hk0
 split at h
 case isFalse=>cases h
 rename_i hok
 obtain ⟨rfl,hlen,hpos,hxw⟩:=hok
 cases h
 have hk0':(σ k₀).bind eC=some (aU rs):=by rw[hk0];rfl
 replace hxw:(aU xs).all (fun r=>decide (r.length=z'))=true:=by simpa [aU,fE,List.all_map,Function.comp_def] using hxw
 have hxw':∀ r∈aU xs,r.length=z':=fun r hr=>by simpa using List.all_eq_true.1 hxw r hr
 obtain ⟨ya,yc,rfl,hylen,hyc,hysrc⟩:=pS hI hx (J3 hxs) hxw
 simp only[bU] at hylen hyc hysrc ⊢
 have hx0:xs≠[]:=List.length_pos_iff.1 hpos
 cases hs with
 | c0 _ l a hl h0 =>
  have:=hI.lC hk0' hl
  simp_all
 | own _ l hl h0 hc1 hc2 =>
  have hL:=hI.lC hk0' hl
  simp only[bU] at hL
  have hlz:l.sz=z':=hI.AWC hk0 hl h0
  obtain ⟨c,hheap,hb⟩:=hI.jL hk0' hl h0
  rw[←hL]
  obtain ⟨_,yb,yo,news,rfl,hsrc⟩:=hysrc (by simpa using hx0)
  have hsl:news.length=xs.length*z':=by simpa using hsrc.len
  have hf:=run_firstCells_some (P:=cx.P) w z' xs.length ⟨yb,yo,none⟩ xs.length yc news hsl hsrc.add
  have hbsz:=hb.size
  have hlen2:=hb.len
  have hfit:0+news.length≤c.toList.length:=by
   simp only[Array.length_toList]
   rw[hb.size,hsl,hlz,Nat.zero_add]
   exact Nat.mul_le_mul_right _ (by simp at hlen2;omega)
  have hst:=run_storeCells_at cx.P l.bJ 0 l.e news 0 c w hheap (by simpa using hfit) hsrc.one
  rw[I9 _ _ _ hfit] at hst
  have hrun:(Builtin.copy_ #[t,u] ty #[.slice (some ⟨l.bJ,0,none⟩) rs.length l.C,.slice (some ⟨yb,yo,none⟩) xs.length yc]).run cx.P w = .ok (.int .i64 (xs.length:Int)) (w.setRow l.bJ (bP c.toList 0 news).toArray):=by
   simp[Builtin.copy_,run_underlying hu,run_sizeOf? w hz,Builtin.lenOf,←hlen,hf,hst,goInt]
  have hcell:∀ p,(bP c.toList 0 news).toArray[p]? = if 0≤p∧p<0+news.length then news[p-0]? else c[p]? := by
   intro p
   simp only[List.getElem?_toArray]
   rw[jF _ _ _ _ hfit]
   simp
  have hcnt:=hb.VU
  have hsm:=hb.small
  have hnew:dV w (bL cx ρ σ) ρ l (.cells (bP c.toList 0 news).toArray l.e (0,0)) (.arr false z' xs):=by
   refine dV.rows (l:=l) (.arr false z' xs) (aU xs) _ rfl (fun _ _ _ e=>by cases e;exact hlz) ⟨by simpa using hbsz,hb.pos,by simp at hsm ⊢;omega,by simp at hlen2 ⊢;omega,by simp at hcnt ⊢;omega,fun r hr=>(hxw' r hr).trans hlz.symm,fun i' j' hi' hj'=>?_,fun p v hp=>?_⟩
   ·rw[hcell]
    have hi'':i'<xs.length:=by simpa using hi'
    have hw':=hxw' _ (List.getElem_mem hi')
    have:=fQ (m:=1) (j:=j') hi'' (by omega:j'+1≤z')
    rw[hlz,if_pos (by omega),Nat.sub_zero]
    exact hsrc.rd i' j' hi' hj'
   ·rw[hcell] at hp
    split at hp
    ·exact hsrc.one v (List.mem_of_getElem? hp)
    ·exact hb.one p v hp
  obtain ⟨g1,g2⟩:=hI.QB (Nat.le_succ n) hk0 hl h0 rfl (.cells (bP c.toList 0 news).toArray l.e (0,0)) (.arr false z' xs) (w':=w.setRow l.bJ (bP c.toList 0 news).toArray) rfl rfl rfl (by simp) (setRow_heap w l.bJ c _ l.e (0,0) hheap) (fun b hne=>setRow_other w l.bJ b _ hne) (zU hheap (setRow_heap w l.bJ c _ l.e (0,0) hheap) (by simp)) hnew
  exact ⟨_,_,hrun,g1,g2,.p _ _ (.v _)⟩
end
end Go.Pv
