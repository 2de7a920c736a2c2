/-
  A function that sorts one array of the caller's own, by its contract.
-/
import Derived.Test.YtcnfagefgkblkaaGreatDoorVrkh
import Derived.Sort.OwnSortedInts
set_option linter.defProp false
set_option linter.unusedSimpArgs false
set_option linter.unusedVariables false
namespace Go.Pv
open Go Go.RowKit Go.Sort
variable {α:Type}{g:Nat}
def KY [Inhabited α] {enc:α->Value} {w:World} {n:Nat} {cur:Array Value} {e:TypeId} {fr:Nat×Nat} (d:Array α) (hb:w.heap[g]? = some (.cells cur e fr)) :
  (putRow enc (Sort.ahead w n) g 0 d).heap[g]? = some (.cells (putCells enc 0 d cur) e fr):=by
 simp[putRow,mapBlock,Sort.ahead,Array.getElem?_modify,hb,onCells]
def yO [Inhabited α] {enc:α->Value} {w:World} {n b:Nat} (d:Array α) (h:b≠g):(putRow enc (Sort.ahead w n) g 0 d).heap[b]? = w.heap[b]? := by
 simp[putRow,mapBlock,Sort.ahead,Array.getElem?_modify,Ne.symm h]
def A93 {σ:Nat->Option bE} {k:Nat} {x:Option bE} (h:σ k=x):b8 σ k x=σ:=by
 funext i
 by_cases e:i=k
 ·subst e;simp[h]
 ·rw[bL _ _ e]
def AW6 [Inhabited α] {P:Program} {f:FuncId} (enc:α->Value) (henc:∀ a,(enc a).oneCell'=true) (dec:List (List T)->Option (List α)) (hdec:∀ rows l,dec rows=some l->rows=l.map λa=>[.v (enc a)])
  (srt:List α->List α) (hlen:∀ l,(srt l).length=l.length) (hentry:∃ fn,P.funcs[f]? = some fn/\(fn.name == "runtime.NumGoroutine")=false/\fn.body.isNone=false)
  (h:∀ (bJ cap:Nat) (zs:List α) (w:World),Holds enc w bJ 0 zs.toArray->bJ<w.heap.size->zs.length<4611686018427387904 ->
   Calls P f #[.slice (some ⟨bJ,0,none⟩) zs.length cap] w λe w'=>e = .returned (.tuple #[])/\∃ n os,w'=grow (putRow enc (Sort.ahead w n) bJ 0 (srt zs).toArray) os)
  (h0:∀ (p:Option Addr) (cap:Nat) (w:World),Calls P f #[.slice p 0 cap] w λe w'=>e = .returned (.tuple #[])/\w'=w) :
  cB P f (xV 1 λrows=>(dec rows).map λl=>(srt l).map λa=>[.v (enc a)]):=by
 refine ⟨hentry,λcx ρ σ n w args vs d σ' n' hP hG hI ha hg=>?_⟩;unfold xV at hg;split at hg
 ·rename_i k;split at hg
  ·rename_i z rows hσ;split at hg
   ·rename_i hz;have hz:z=1:=of_decide_eq_true hz;subst hz;simp only[Option.map_map,aa,Function.comp,Prod.mk.injEq] at hg;obtain ⟨l,hl,rfl,rfl,rfl⟩:=hg;have hrows:=hdec rows l hl;have hv:∃ v,vs = #[v]:=by
     have hs:vs.size=1:=ha.1;obtain ⟨l⟩:=vs
     match l,hs with
     | [a],_=>exact ⟨a,rfl⟩
    obtain ⟨v,rfl⟩:=hv;have hv:Rd w (Own cx ρ σ) ρ (.own k) v:=by simpa using ha.2 0 (by simp)
    cases hv with
    | own _ lc hρ hL hLC hC =>
     obtain ⟨lc',hρ',hbox⟩:=hI.boxes k _ hσ;rw[hρ] at hρ';cases hρ';obtain ⟨o,ho,hbi⟩:=hbox.1 hL;cases hbi with
     | rows _ rs c hr hzz hb =>
      have hsz:lc.sz=1:=hzz _ _ _ rfl;simp only[dZ,Option.some.injEq] at hr;subst hr;have hlr:rows.length=l.length:=by rw[hrows];simp
      have hcnt:l.length=lc.L:=by rw[<-hlr];simpa using hb.cnt
      have hget:∀ j (hj:j<l.length),c[j]? = some (enc l[j]):=λj hj=>by
       obtain ⟨v,h1,h2⟩:=hb.cell j 0 (by simpa [hlr] using hj) (by simp[hrows,aY]);rw[hsz] at h1;simp only[Nat.mul_one,Nat.add_zero] at h1;rw[h1];have h3:Rd w (Own cx ρ σ) ρ (.p (.v (enc l[j]))) v:=by simpa [hrows,aY] using h2
       cases h3 with
       | p _ _ h4=>cases h4;rfl
      have hHolds:Holds enc w lc.bJ 0 l.toArray:=by
       intro j hj;have hj':j<l.length:=by simpa using hj
       refine ⟨?_,by simp[World.frozen?,ho]⟩;simp only[World.cell?,ho,Nat.zero_add];simp only[Option.isSome_none,Bool.false_eq_true,if_false];rw[hget j hj'];simp[hj']
      have hblk:lc.bJ<w.heap.size:=(Array.getElem?_eq_some_iff.1 ho).1;have hsmall:l.length<=2 ^ 47:=by have:=hb.small;simp at this;omega
      rw[<-hcnt];refine (h lc.bJ lc.C l w hHolds hblk (by omega)).mono ?_;rintro e w' ⟨rfl,m,os,rfl⟩;have hlc:l.length<=lc.C:=by omega
      have hcs:c.size=lc.C:=by rw[hb.size,hsz,Nat.mul_one]
      have hat:=KY (enc:=enc) (n:=m) (srt l).toArray ho;obtain ⟨g1,g2⟩:=hI.JR (n':=n+1) (w':=putRow enc (Sort.ahead w m) lc.bJ 0 (srt l).toArray) (by omega) hσ hρ hL rfl _ (.arr false 1 ((srt l).map λa=>[.v (enc a)])) rfl rfl rfl (by simp[putRow,mapBlock,Sort.ahead]) hat (λb hne=>yO _ hne) (uY ho hat (by simp[putCells]))
       (.rows _ _ _ rfl (λro z rows e=>by cases e;exact hsz) ⟨by simp[putCells,hb.size],hb.pos,by simp[hlen];omega,by simp[hlen];omega,by simp[hlen];omega,λr hr=>by
        simp only[aY,List.map_map,List.mem_map,Function.comp] at hr;obtain ⟨a,_,rfl⟩:=hr;simp[hsz],λi j hi hj=>by
         have hi':i<(srt l).length:=by simpa using hi
         have hi2:i<l.length:=by rw[<-hlen l];exact hi'
         have hj':j=0:=by
          have:j<1:=by simpa [aY] using hj
          omega
         subst hj';refine ⟨enc (srt l)[i],?_,?_⟩
         ·rw[hsz];simp only[Nat.mul_one,Nat.add_zero];simp[putCells,hi',hget i hi2]
         ·have:(aY ((srt l).map λa=>[T.v (enc a)]))[i][0] = .p (.v (enc (srt l)[i])):=by simp[aY]
          rw[this];exact .p _ _ (.v _),λp v hp=>by
         simp only[putCells,Array.getElem?_mapIdx,aa] at hp;obtain ⟨u,hu,rfl⟩:=hp;split
         ·exact henc _
         ·exact hb.one p u hu⟩)
      have hbel:Below (putRow enc (Sort.ahead w m) lc.bJ 0 (srt l).toArray).heap.size (putRow enc (Sort.ahead w m) lc.bJ 0 (srt l).toArray) (grow (putRow enc (Sort.ahead w m) lc.bJ 0 (srt l).toArray) os) :=
       ⟨rfl,rfl,rfl,by simp[grow],λb hlt=>by rw[heap_grow_old _ _ hlt]⟩
      exact ⟨_,ρ,rfl,g1.grow hbel (ak _),g2.trans' (bO.gM hbel),.p _ _ (.v _)⟩
    | dC _ lc a hρ hL =>
     obtain ⟨lc',hρ',hbox⟩:=hI.boxes k _ hσ;rw[hρ] at hρ';cases hρ';obtain ⟨ro,z,he⟩:=hbox.2 hL;have hr0:rows=[]:=by cases he;rfl
     have hl0:l=[]:=by
      rw[hr0] at hrows;simpa using hrows.symm
     have hs0:srt l=[]:=List.length_eq_zero_iff.1 (by rw[hlen,hl0];rfl);refine (h0 a 0 w).mono ?_;rintro e w' ⟨rfl,rfl⟩;refine ⟨_,ρ,rfl,?_,?_,.p _ _ (.v _)⟩
     ·rw[hs0,A93 (by rw[hσ,hr0];rfl)];exact hI.grow (Below.refl _ _) (by omega)
     ·rw[hs0,A93 (by rw[hσ,hr0];rfl)];exact bO.refl _ _ _ _
   ·cases hg
  ·cases hg
 ·cases hg
end Go.Pv
