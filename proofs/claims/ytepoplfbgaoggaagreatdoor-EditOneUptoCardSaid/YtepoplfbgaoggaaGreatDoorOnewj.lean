/-
  The pure evaluator, part j: append, and the range over a string.
-/
import Derived.Test.YtepoplfbgaoggaaGreatDoorOnewi
set_option linter.defProp false
set_option linter.unusedSimpArgs false
namespace Go.Pv
open Go Go.RowKit
def AAU (σ:Nat->Option bL) (d:D):Option (List (List D)) :=
 match d with
 | .p t=>(gP t).map λx=>bK x.2
 | .own k=>(σ k).bind fJ
 | .bs k off len=>match (σ k).bind fJ with
  | some rs=>if off+len<=rs.length then some ((rs.drop off).take len) else none
  | _=>none
 | _=>none
def AEZ (σ:Nat->Option bL) (d:D):Option (List (List T)) :=
 match d with
 | .p t=>(gP t).map (·.2)
 | .own k=>match σ k with
  | some (.arr _ _ rows)=>some rows
  | _=>none
 | .bs k off len=>match σ k with
  | some (.arr _ _ rows)=>if off+len<=rows.length then some ((rows.drop off).take len) else none
  | _=>none
 | _=>none
def AMX {σ:Nat->Option bL} {d:D} {rows:List (List T)} (h:AEZ σ d=some rows):AAU σ d=some (bK rows):=by
 unfold AEZ at h;unfold AAU;split at h
 ·simp only[aa] at h ⊢;obtain ⟨x,h1,rfl⟩:=h;simp_all
 ·split at h
  ·rename_i hk;cases h;simp only[hk,Option.bind_some];rfl
  ·cases h
 ·split at h
  ·rename_i hk;split at h
   ·rename_i hle;cases h;simp only[hk,Option.bind_some,fJ];rw[if_pos (by simpa using hle)];simp[bK,List.map_drop,List.map_take]
   ·cases h
  ·cases h
 ·cases h
structure Src (w:World) (own:Nat->Prop) (ρ:Nat->Option Loc) (sz:Nat) (rows:List (List D)) (bV off:Nat) (news:List Value):Prop where
 len:news.length=rows.length*sz
 cell:∀ p u,news[p]? = some u->w.cell? ⟨bV,off+p,none⟩=some u/\u.oneCell'=true
 rd:∀ i j (hi:i<rows.length) (hj:j<rows[i].length),∃ u,news[i*sz+j]? = some u/\Rd w own ρ rows[i][j] u
section
variable {cx : Cx} {ρ : Nat -> Option Loc} {σ : Nat -> Option bL} {n : Nat} {w : World}
variable {sz:Nat}
def rE {own:Nat->Prop} {bV off:Nat} {rows:List (List D)} (hsz:0<sz) (hw:∀ r∈rows,r.length=sz)
  (h:∀ i j (hi:i<rows.length) (hj:j<rows[i].length),∃ u,w.cell? ⟨bV,off+(i*sz+j),none⟩=some u/\u.oneCell'=true/\Rd w own ρ rows[i][j] u):∃ news,Src w own ρ sz rows bV off news:=by
 have hp:∀ p,p<rows.length*sz->∃ (hi:p / sz<rows.length),p % sz<rows[p / sz].length:=by
  intro p hp;have hi:p / sz<rows.length:=by rw[Nat.div_lt_iff_lt_mul hsz];exact hp
  exact ⟨hi,by rw[hw _ (ak hi)];exact Nat.mod_lt _ hsz⟩
 have hdm:∀ p,p / sz*sz+p % sz=p:=λp=>by rw[Nat.mul_comm];exact Nat.div_add_mod p sz
 have hex:∃ f:Nat->Value,∀ p (hlt:p<rows.length*sz),w.cell? ⟨bV,off+p,none⟩=some (f p)/\(f p).oneCell'=true/\∀ (hi:p / sz<rows.length) (hj:p % sz<rows[p / sz].length),Rd w own ρ rows[p / sz][p % sz] (f p):=by
  have h':∀ p (hlt:p<rows.length*sz),∃ u,w.cell? ⟨bV,off+p,none⟩=some u/\u.oneCell'=true/\∀ (hi:p / sz<rows.length) (hj:p % sz<rows[p / sz].length),Rd w own ρ rows[p / sz][p % sz] u:=by
   intro p hlt;obtain ⟨u,h1,h2,h3⟩:=h (p / sz) (p % sz) (hp p hlt).1 (hp p hlt).2;simp_all
  refine ⟨λp=>if hlt:p<rows.length*sz then Classical.choose (h' p hlt) else undef,λp hlt=>?_⟩;have hs:=Classical.choose_spec (h' p hlt);simp only[dif_pos hlt];exact hs
 obtain ⟨f,hf⟩:=hex;refine ⟨(List.range (rows.length*sz)).map f,by simp,λp u hu=>?_,λi j hi hj=>?_⟩
 ·simp only[List.getElem?_map,aa] at hu;obtain ⟨q,hq,rfl⟩:=hu;obtain ⟨hlt,hq'⟩:=List.getElem?_eq_some_iff.1 hq;simp at hq' hlt;simp_all
 ·have hj':j<sz:=by rw[<-hw _ (ak hi)];exact hj
  have hlt:i*sz+j<rows.length*sz:=by have:=kR (m:=1) (j:=j) hi (by omega:j+1<=sz);omega
  have e1:(i*sz+j) / sz=i:=by rw[Nat.mul_comm,Nat.mul_add_div hsz,Nat.div_eq_of_lt hj'];rfl
  have e2:(i*sz+j) % sz=j:=by rw[Nat.mul_comm,Nat.mul_add_mod,Nat.mod_eq_of_lt hj']
  have:=(hf (i*sz+j) hlt).2.2 (by rw[e1];exact hi) (by simp only[e1,e2];exact hj);simp_all
def MZ (hI:Inv cx ρ σ n w) {d:D} {x:Value} {rows:List (List D)} {z:Nat} (hd:Rd w (bY cx ρ σ) ρ d x) (h:AAU σ d=some rows) (hz:rows.all (λr=>decide (r.length=z))=true) :
  ∃ a c,x = .slice a rows.length c/\rows.length<=2 ^ 47/\rows.length<=c/\(rows≠[]->0<z/\∃ bV off news,a=some ⟨bV,off,none⟩/\Src w (bY cx ρ σ) ρ z rows bV off news):=by
 have hw:∀ r∈rows,r.length=z:=λr hr=>by simpa using List.all_eq_true.1 hz r hr
 unfold AAU at h;split at h
 ·simp only[aa] at h;obtain ⟨⟨full,rs⟩,hrs,rfl⟩:=h;simp only[bK] at *;cases hd with
  | p _ _ hd =>
  have hsl:=oA hd hrs;cases hsl with
  | dF _ a cap hf hn=>exact ⟨a,cap,by simp,by simp,by simp,by simp⟩
  | sl _ _ sz b o cap f g1 g2 g3 g4 g45 g5 g6 g7 g8 =>
   refine ⟨some ⟨b,o,none⟩,cap,by simp,by simpa using g2,by simpa using g1,λhne=>?_⟩;have hsz:sz=z:=by
    cases rs with
    | nil=>simp at hne
    | cons r rs =>
     simp_all
   subst hsz;refine ⟨g6,b,o,?_⟩;obtain ⟨news,hn⟩:=rE (w:=w) (own:=bY cx ρ σ) (ρ:=ρ) (sz:=sz) (bV:=b) (off:=o) (rows:=rs.map (·.map .p)) g6 hw (λi j hi hj=>by
    simp only[ae] at hi;simp only[List.getElem_map,ae] at hj ⊢;have hjs:j<sz:=by rw[<-g5 _ (ak hi)];exact hj
    obtain ⟨q1,q2⟩:=g7 i j hi hjs;exact ⟨f i j,by rw[<-Nat.add_assoc];exact q1,q2,.p _ _ (g8 i j hi hj)⟩)
   exact ⟨news,rfl,hn⟩
 ·cases hd with
  | own _ l hl h0 hc1 hc2 =>
   have hL:=hI.qA h hl;by_cases hne:rows=[]
   ·subst hne;exact ⟨some ⟨l.bV,0,none⟩,l.C,by rw[<-hL],by simp,by simp,λh=>absurd rfl h⟩
   obtain ⟨l',c,hl',_,hheap,hb⟩:=hI.rows h hne;rw[hl] at hl';cases hl';refine ⟨some ⟨l.bV,0,none⟩,l.C,by rw[hL],hb.small,by omega,λ_=>?_⟩;have hsz:l.sz=z:=by
    cases rows with
    | nil=>exact absurd rfl hne
    | cons r rows=>rw[<-hw r (by simp)];exact (hb.width r (by simp)).symm
   subst hsz;refine ⟨hb.pos,l.bV,0,?_⟩;obtain ⟨news,hn⟩:=rE (w:=w) (own:=bY cx ρ σ) (ρ:=ρ) (sz:=l.sz) (bV:=l.bV) (off:=0) (rows:=rows) hb.pos hw (λi j hi hj=>by
    obtain ⟨u,u1,u2,u3⟩:=hI.cellOf h (i:=i) (r:=rows[i]) (by simp[hi]) (j:=j) hj hl;exact ⟨u,by rw[Nat.zero_add];exact u1,u3,u2⟩)
   exact ⟨news,rfl,hn⟩
  | eW _ l a hl h0 =>
   have hL:=hI.qA h hl;simp_all
 ·rename_i k off len;split at h
  ·rename_i rs hk;split at h
   ·cases h;cases hd with
    | bs _ _ _ l hl hc1 hc2 =>
    by_cases hnil:(rs.drop off).take len=[]
    ·have hl0:len=0:=by
      have:=congrArg List.length hnil;simp at this;omega
     simp_all
    have hrs0:rs≠[]:=by intro e;subst e;simp at hnil
    obtain ⟨l',c,hl',_,hheap,hb⟩:=hI.rows hk hrs0;rw[hl] at hl';cases hl';have hlen:((rs.drop off).take len).length=len:=by simp;omega
    refine ⟨some ⟨l.bV,off*l.sz,none⟩,l.C-off,by rw[hlen],?_,by omega,λhne=>?_⟩
    ·have:=hb.small;omega
    ·have hpos:0<len:=by rw[<-hlen];exact List.length_pos_iff.2 hne
     have hsz:l.sz=z:=by
      have h1:rs[off]'(by omega)∈(rs.drop off).take len:=by
       rw[List.mem_iff_getElem];exact ⟨0,by omega,by simp⟩
      rw[<-hw _ h1];exact (hb.width _ (ak _)).symm
     subst hsz;refine ⟨hb.pos,l.bV,off*l.sz,?_⟩;obtain ⟨news,hn⟩:=rE (w:=w) (own:=bY cx ρ σ) (ρ:=ρ) (sz:=l.sz) (bV:=l.bV) (off:=off*l.sz) (rows:=(rs.drop off).take len) hb.pos hw (λi j hi hj=>by
      have hi':off+i<rs.length:=by omega
      have e:((rs.drop off).take len)[i]=rs[off+i]:=by simp
      have hj':=hj;rw[e] at hj';obtain ⟨u,u1,u2,u3⟩:=hI.cellOf hk (i:=off+i) (r:=rs[off+i]) (by simp[hi']) (j:=j) hj' hl;refine ⟨u,by rw[<-Nat.add_assoc,<-Nat.add_mul];exact u1,u3,?_⟩;simp only[e];exact u2)
     exact ⟨news,rfl,hn⟩
   ·cases h
  ·cases h
 ·cases h
def A1I {own:Nat->Prop} {olds news:List (List D)} {vo vn:List Value} {z:Value} {cap:Nat} (e:TypeId) (bV:Nat) (hsz:0<sz) (hz:z.cells.size=sz) (hz1:z.cells.all Value.oneCell'=true)
  (ho1:vo.length=olds.length*sz) (ho2:∀ u∈vo,u.oneCell'=true) (ho3:∀ i j (hi:i<olds.length) (hj:j<olds[i].length),∃ u,vo[i*sz+j]? = some u/\Rd w own ρ olds[i][j] u) (how:∀ r∈olds,r.length=sz)
  (hn1:vn.length=news.length*sz) (hn2:∀ u∈vn,u.oneCell'=true) (hn3:∀ i j (hi:i<news.length) (hj:j<news[i].length),∃ u,vn[i*sz+j]? = some u/\Rd w own ρ news[i][j] u) (hnw:∀ r∈news,r.length=sz)
  (hcap:olds.length+news.length<=cap) (hsm:olds.length+news.length<=2 ^ 47) :
  AGZ w own ρ ⟨bV,sz,cap,e,olds.length+news.length⟩ (olds++news) (vo.toArray++vn.toArray++Builtin.zeroCells z.cells (cap-(olds.length+news.length))):=by
 have hcell:∀ p,(vo.toArray++vn.toArray++Builtin.zeroCells z.cells (cap-(olds.length+news.length)))[p]? = if p<olds.length*sz then vo[p]? else if p<(olds.length+news.length)*sz then vn[p-olds.length*sz]? else (Builtin.zeroCells z.cells (cap-(olds.length+news.length)))[p-(olds.length+news.length)*sz]? := by
  intro p;rw[Nat.add_mul];by_cases h1:p<olds.length*sz
  ·rw[if_pos h1,Array.append_assoc,Array.getElem?_append_left (by simp[ho1,h1])];simp
  ·rw[if_neg h1];by_cases h2:p<olds.length*sz+news.length*sz
   ·rw[if_pos h2,Array.append_assoc,Array.getElem?_append_right (by simp[ho1];omega),Array.getElem?_append_left (by simp[ho1,hn1];omega)];simp[ho1]
   ·rw[if_neg h2,Array.getElem?_append_right (by simp[ho1,hn1];omega)];simp[ho1,hn1]
 refine ⟨?_,hsz,by simpa using hsm,by simpa using hcap,by simp,λr hr=>?_,λi j hi hj=>?_,λp v hp=>?_⟩
 ·simp only[Array.size_append,List.size_toArray,ho1,hn1,size_zeroCells,hz,<-Nat.add_mul]
  congr 1;omega
 ·rcases List.mem_append.1 hr with h|h
  ·exact how _ h
  ·exact hnw _ h
 ·rw[hcell];simp at hi;by_cases h1:i<olds.length
  ·simp only[List.getElem_append_left h1] at hj ⊢;have hw':=how _ (ak h1);have:=kR (m:=1) (j:=j) h1 (by omega:j+1<=sz);rw[if_pos (by omega)];exact ho3 i j h1 hj
  ·have h2:i-olds.length<news.length:=by omega
   simp only[List.getElem_append_right (show olds.length<=i by omega)] at hj ⊢;have hw':=hnw _ (ak h2);have:=kR (m:=1) (j:=j) h2 (by omega:j+1<=sz);have e3:i*sz=olds.length*sz+(i-olds.length)*sz:=by rw[<-Nat.add_mul];congr 1;omega
   rw[if_neg (by omega),if_pos (by rw[Nat.add_mul];omega),show i*sz+j-olds.length*sz=(i-olds.length)*sz+j by omega];exact hn3 _ j h2 hj
 ·rw[hcell] at hp;split at hp
  ·exact ho2 v (List.mem_of_getElem? hp)
  ·split at hp
   ·exact hn2 v (List.mem_of_getElem? hp)
   ·have hm:=Array.mem_of_getElem? hp;simp only[Builtin.zeroCells,Array.mem_map,Array.mem_range] at hm;obtain ⟨q,hq,rfl⟩:=hm;have hlt:q % z.cells.size<z.cells.size:=Nat.mod_lt _ (by omega);have:=Array.all_eq_true.1 hz1 (q % z.cells.size) hlt;rw[getElem!_pos z.cells _ hlt];exact this
end
variable {α:Type}
def iD (z:Nat) (rows:List (List α)):Bool:=rows.all (λr=>decide (r.length=z))
@[simp] def BRN (z:Nat):iD z ([]:List (List α))=true:=rfl
@[simp] def BQK (z:Nat) (r:List α) (rows:List (List α)):iD z (r::rows)=(decide (r.length=z)&&iD z rows):=rfl
@[simp] def BK3 (z:Nat) (a b:List (List α)):iD z (a++b)=(iD z a&&iD z b):=by simp[iD]
variable {β:Type}
@[simp] def BRM (z:Nat) (f:α->β) (rows:List (List α)):iD z (rows.map λr=>r.map f)=iD z rows:=by simp[iD,List.all_map,Function.comp_def]
@[simp] def BQL (z:Nat) (f:β->List α) (l:List β) (h:∀ b,(f b).length=z):iD z (l.map f)=true:=by simp[iD,List.all_map,h]
def oD (s:iII):List (List T):=s.data.toList.map λb=>[.v (.int .u8 (b.toNat:Int))]
def GY (P:Program) (σ:Nat->Option bL) (k:Nat) (t u:TypeId) (s x:D):Option (D×(Nat->Option bL)) :=
 match pM P t,P.underlying u,x with
 | some e,some .string,.p (.v (.string b)) =>
  match tsz? P e,tby? P e,tz? P e with
  | some z,some by_,some zv =>
   if z=1/\zv.cells.size=1/\zv.cells.all Value.oneCell'=true then
    match s with
    | .own k₀ =>
     match σ k₀ with
     | some (.arr false z' rs) =>
      if z'=1/\(rs.length+b.size)*by_<=140737488355328/\rs.length+b.size<=140737488355328 then
       some (.own k,cJ (cJ σ k₀ none) k (some (.arr false 1 (rs++oD b))))
      else none
     | _=>none
    | _=>none
   else none
  | _,_,_=>none
 | _,_,_=>none
def kC (P:Program) (σ:Nat->Option bL) (k:Nat) (t u:TypeId) (s x:D):Option (D×(Nat->Option bL)) :=
 if t=u then
  match pM P t with
  | some e =>
   match tsz? P e,tby? P e,tz? P e,AEZ σ x with
   | some z,some by_,some zv,some xs =>
    if 0<z/\zv.cells.size=z/\zv.cells.all Value.oneCell'=true/\iD z xs=true then
     match s with
     | .p st =>
      match gP st with
      | some (full,[])=>if full=true/\xs.length*by_<=140737488355328/\xs.length<=140737488355328 then some (.own k,cJ σ k (some (.arr false z xs))) else none
      | some (full,r::rows) =>
       match xs with
       | []=>some (s,σ)
       | x0::xs =>
        if full=true/\iD z (r::rows)=true/\((r::rows).length+(x0::xs).length)*by_<=140737488355328/\(r::rows).length+(x0::xs).length<=140737488355328 then
         some (.own k,cJ σ k (some (.arr false z ((r::rows)++(x0::xs)))))
        else none
      | none=>none
     | .own k₀ =>
      match σ k₀ with
      | some (.arr false z' rs) =>
       if z'=z/\(rs.length+xs.length)*by_<=140737488355328/\rs.length+xs.length<=140737488355328 then
        some (.own k,cJ (cJ σ k₀ none) k (some (.arr false z (rs++xs))))
       else none
      | _=>none
     | _=>none
    else none
   | _,_,_,_=>none
  | none=>none
 else GY P σ k t u s x
end Go.Pv
