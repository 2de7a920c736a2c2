/-
  The pure evaluator, part p: what comes in reads as pure data.
-/
import Derived.Test.YtepoplfbgaoggaaGreatDoorOnewo
import Derived.SizedLaws
import Derived.ChangeArms
set_option linter.defProp false
set_option linter.unusedSimpArgs false
namespace Go.Pv
open Go Go.RowKit
def partsOf (P:Program) (t:TypeId):Option (List (Nat×TypeId)) :=
 match P.underlying t with
 | some (.struct fs)=>some (fs.toList.map λf=>(f.offset,f.type))
 | some (.array n e)=>some ((List.range n).map λi=>(i*P.cellsOf e,e))
 | _=>none
def nN (P:Program):Nat->List (Nat×TypeId)->Option Nat
 | o,[]=>some o
 | o,(a,t)::r=>if a=o then nN P (o+P.cellsOf t) r else none
inductive YZ (B:Nat) (P:Program):TypeId->List T->Prop
 | bool (t:TypeId) (b:Bool):P.underlying t=some .bool->YZ B P t [.v (.bool b)]
 | int (t:TypeId) (k:IntKind) (n:Int):P.underlying t=some (.int k)->(Lit.int k n).wf=true->YZ B P t [.v (.int k n)]
 | string (t:TypeId) (s:iII):P.underlying t=some .string->s.size<=B->YZ B P t [.v (.string s)]
 | slice (t e:TypeId) (a:T) (f:Bool) (rows:List (List T)):P.underlying t=some (.slice e)->gP a=some (f,rows)->rows.length*P.bytesOf e<=B->rows.length<=B->(∀ r∈rows,YZ B P e r)->YZ B P t [a]
 | parts (t:TypeId) (pl:List (Nat×TypeId)) (n:Nat) (ts:List T):partsOf P t=some pl->nN P 0 pl=some n->ts.length=n->(∀ p∈pl,YZ B P p.2 ((ts.drop p.1).take (P.cellsOf p.2)))->YZ B P t ts
def okT (P:Program):Nat->TypeId->Bool
 | 0,_=>false
 | n+1,t =>
  match P.underlying t with
  | some .bool=>true
  | some (.int _)=>true
  | some .string=>true
  | some (.slice e)=>decide (0<P.cellsOf e)&&decide (0<P.bytesOf e)&&okT P n e
  | _ =>
   match partsOf P t with
   | some pl=>(nN P 0 pl == some (P.cellsOf t))&&pl.all λp=>okT P n p.2
   | none=>false
section
variable {B : Nat} {P : Program} {W : World} {H : Type} {enc : TypeId × Value -> H}
abbrev RdN (W:World):T->Value->Prop:=cS W (λ_=>False)
def Y6:∀ {pl:List (Nat×TypeId)} {o n:Nat},nN P o pl=some n->o<=n
 | [],o,n,h=>by simp[nN] at h;omega
 | (a,t)::r,o,n,h=>by
  simp only[nN] at h;split at h
  ·have:=Y6 h;omega
  ·cases h
def assemble {cs:List Value} {Q:TypeId->List T->Prop}:∀ {pl:List (Nat×TypeId)} {o n:Nat},nN P o pl=some n->n=cs.length ->
  (∀ p∈pl,∃ ts,dO (RdN W) ts (((cs.drop p.1).take (P.cellsOf p.2)).toArray)/\Q p.2 ts) ->
  ∃ ts,dO (RdN W) ts (cs.drop o).toArray/\∀ p∈pl,o<=p.1/\Q p.2 ((ts.drop (p.1-o)).take (P.cellsOf p.2))
 | [],o,n,h,hn,_=>by
  cases h;refine ⟨[],?_,by simp⟩;rw[hn,List.drop_length];exact dO.nil
 | (a,t)::r,o,n,h,hn,hp=>by
  simp only[nN] at h;split at h
  ·rename_i ha;subst ha;have hle:=Y6 h;obtain ⟨ts1,h1,h2⟩:=hp (a,t) (by simp);obtain ⟨ts2,h3,h4⟩:=assemble h hn (λp hp'=>hp p (by simp[hp']));have hl1:ts1.length=P.cellsOf t:=by
    have:=h1.1;simp at this;omega
   refine ⟨ts1++ts2,?_,λp hp'=>?_⟩
   ·have:=h1.append h3;rw[List.append_toArray] at this;rw[<-List.drop_drop,List.take_append_drop] at this;exact this
   ·rcases List.mem_cons.1 hp' with rfl|hp'
    ·simp_all
    ·obtain ⟨g1,g2⟩:=h4 p hp';refine ⟨by omega,?_⟩;rw[List.drop_append,List.drop_eq_nil_of_le (by omega),List.nil_append];have:p.1-a-ts1.length=p.1-(a+P.cellsOf t):=by omega
     simp_all
  ·cases h
def CJ {e:TypeId}:∀ {ds:List (DataW H)},(DataW.weightsAll P e ds).all (· <= B)=true->∀ d∈ds,(d.weights P e).all (· <= B)=true
 | [],_,d,hd=>by cases hd
 | x::ds,h,d,hd=>by
  simp only[DataW.weightsAll,List.all_append,ac] at h;rcases List.mem_cons.1 hd with rfl|hd
  ·exact h.1
  ·exact CJ h.2 d hd
def JE {cs:List Value}:∀ {pl:List (Nat×TypeId)} {o n:Nat},nN P o pl=some n->n=cs.length->(∀ p∈pl,∀ v∈(cs.drop p.1).take (P.cellsOf p.2),v.oneCell'=true)->∀ v∈cs.drop o,v.oneCell'=true
 | [],o,n,h,hn,_,v,hv=>by
  simp only[nN] at h;simp_all
 | (a,t)::r,o,n,h,hn,hp,v,hv=>by
  simp only[nN] at h;split at h
  ·rename_i ha;subst ha;rw[<-List.take_append_drop (P.cellsOf t) (cs.drop a)] at hv;rcases List.mem_append.1 hv with hv|hv
   ·simp_all
   ·rw[List.drop_drop] at hv;exact JE h hn (λp hp'=>hp p (by simp[hp'])) v hv
  ·cases h
def PY {H:Type} {P:Program} {B:Nat}:∀ {ts:List TypeId} {ds:List (DataW H)},(DataW.weightsEach P ts ds).all (· <= B)=true->∀ (i:Nat) (t:TypeId) (d:DataW H),ts[i]? = some t->ds[i]? = some d->(d.weights P t).all (· <= B)=true:=by
 intro ts ds h i t d ht hd;refine List.all_eq_true.2 λn hn=>?_;exact List.all_eq_true.1 h n (DataW.weights_mem_each ht hd n hn)
def AZK {base n:Nat} {a:Addr} {cs:List Value} (h:W.cells? base a n=some cs):cs.length=n/\∀ j,j<n->∃ u,cs[j]? = some u/\W.cell? (a.add j)=some u:=by
 unfold World.cells? at h;split at h
 ·obtain ⟨h1,h2⟩:=mapM_some_length h;simp_all
 ·cases h
def A3X {a:Addr} {u:Value} (h:W.cell? a=some u):a.spot=none:=by
 unfold World.cell? at h;split at h
 ·simp_all
 ·cases h
def BKF (hB:B<=2 ^ 47):∀ (n fuel:Nat) (t:TypeId) (cs:List Value) (x:DataW H×List MemPlace),okT P n t=true->DataW.trod enc P W 0 (λ_=>true) true fuel t cs=some x->(x.1.weights P t).all (· <= B)=true ->
  (∀ v∈cs,v.oneCell'=true)/\∃ ts,dO (RdN W) ts cs.toArray/\YZ B P t ts:=by
 intro n
 induction n with
 | zero=>intro fuel t cs x hok;simp[okT] at hok
 | succ n ih =>
  intro fuel t cs x hok h hw;unfold okT at hok;split at hok
  ·rename_i hu;obtain ⟨b,rfl,rfl⟩:=DataW.trod_bool hu h;exact ⟨by simp[Value.oneCell'],_,dO.one (.v _),.bool t b hu⟩
  ·rename_i k hu;obtain ⟨m,rfl,rfl,hwf⟩:=DataW.trod_int hu h;exact ⟨by simp[Value.oneCell'],_,dO.one (.v _),.int t k m hu hwf⟩
  ·rename_i hu;obtain ⟨s,rfl,rfl,hs⟩:=DataW.trod_string hu h;have this:s.data.toList.length<=B:=by simpa using List.all_eq_true.1 hw s.data.toList.length (by simp[DataW.weights])
   rw[Array.length_toList] at this;exact ⟨by simp[Value.oneCell'],_,dO.one (.v _),.string t s hu (by show s.data.size<=_;omega)⟩
  ·rename_i e hu;simp only[ac,ah] at hok;obtain ⟨⟨hz,hb⟩,hoke⟩:=hok;rcases DataW.trod_slice hu h with ⟨rfl,rfl⟩|⟨a,len,cap,elems,rest,m,rfl,rfl,rfl,_,hlc,hcm,hlen,hel,_⟩
   ·exact ⟨by simp[Value.oneCell'],_,dO.one (.v _),.slice t e (.v (.slice none 0 0)) true [] hu rfl (by simp) (by simp) (by simp)⟩
   ·refine ⟨by simp[Value.oneCell'],?_⟩;simp only[DataW.weights,hu,List.all_cons,ac,ah,List.all_append] at hw;obtain ⟨hw1,hw2,_⟩:=hw;have hwe:=CJ hw2;simp only[ae] at hw1;have hlb:len*P.bytesOf e<=B:=Nat.le_trans (Nat.mul_le_mul_right _ (by omega)) hw1;have hl47:len<=B:=by
     have:=Nat.le_mul_of_pos_right len hb;omega
    have hrow:∀ i,i<len->∃ r:List T,r.length=P.cellsOf e/\YZ B P e r/\∀ j (hj:j<P.cellsOf e) (hj':j<r.length),∃ u,W.cell? ((a.add (i*P.cellsOf e)).add j)=some u/\u.oneCell'=true/\RdN W r[j] u:=by
     intro i hi;have h1:=hel i hi;rw[List.getElem?_eq_getElem (by omega)] at h1;simp only[Option.bind_eq_some_iff] at h1;obtain ⟨cs',hc1,hc2⟩:=h1;obtain ⟨g1,g2⟩:=AZK hc1;obtain ⟨k1,ts,k2,k3⟩:=ih m e cs' _ hoke hc2 (hwe _ (List.mem_map.2 ⟨elems[i],ak _,rfl⟩));refine ⟨ts,by have:=k2.1;simp at this;omega,k3,λj hj hj'=>?_⟩;obtain ⟨u,u1,u2⟩:=g2 j hj;refine ⟨u,u2,k1 u (List.mem_of_getElem? u1),?_⟩;have:=k2.2 j hj';simpa [Array.getD_eq_getD_getElem?,u1] using this
    have hex:∃ rows:List (List T),rows.length=len/\∀ i (hi:i<rows.length),rows[i].length=P.cellsOf e/\YZ B P e rows[i]/\∀ j (hj:j<P.cellsOf e) (hj':j<rows[i].length),∃ u,W.cell? ((a.add (i*P.cellsOf e)).add j)=some u/\u.oneCell'=true/\RdN W rows[i][j] u:=by
     have hch:∃ f:Nat->List T,∀ i,i<len->(f i).length=P.cellsOf e/\YZ B P e (f i)/\∀ j (hj:j<P.cellsOf e) (hj':j<(f i).length),∃ u,W.cell? ((a.add (i*P.cellsOf e)).add j)=some u/\u.oneCell'=true/\RdN W (f i)[j] u:=by
      refine ⟨λi=>if hi:i<len then Classical.choose (hrow i hi) else [],λi hi=>?_⟩;have:=Classical.choose_spec (hrow i hi);simp only[dif_pos hi];exact this
     obtain ⟨f,hf⟩:=hch;refine ⟨(List.range len).map f,by simp,λi hi=>?_⟩;simp at hi;simpa using hf i hi
    obtain ⟨rows,hrl,hrows⟩:=hex;have hty:∀ r∈rows,YZ B P e r:=λr hr=>by
     obtain ⟨i,hi,rfl⟩:=List.mem_iff_getElem.1 hr;exact (hrows i hi).2.1
    refine ⟨[.sl false rows],dO.one ?_,.slice t e _ false rows hu rfl (by rw[hrl];exact hlb) (by omega) hty⟩;by_cases h0:len=0
    ·subst h0;have:rows=[]:=List.eq_nil_of_length_eq_zero hrl;subst this;exact .dF false _ _ (by simp) (by simp)
    ·have hsp:a.spot=none:=by
      obtain ⟨u,hu1,_⟩:=(hrows 0 (by omega)).2.2 0 hz (by rw[(hrows 0 (by omega)).1];exact hz);simp[Addr.add_zero'] at hu1;exact A3X hu1
     obtain ⟨b,o,sp⟩:=a;simp at hsp;subst hsp;have hcell:∀ i j (hi:i<rows.length) (hj:j<P.cellsOf e),∃ u,W.cell? ⟨b,o+i*P.cellsOf e+j,none⟩=some u/\u.oneCell'=true/\∀ (hj:j<rows[i].length),RdN W rows[i][j] u:=by
      intro i j hi hj;obtain ⟨u,u1,u2,u3⟩:=(hrows i hi).2.2 j hj (by rw[(hrows i hi).1];exact hj);rw[Addr.add_lit,Addr.add_lit] at u1;exact ⟨u,u1,u2,λ_=>u3⟩
     have hex:∃ f:Nat->Nat->Value,∀ i j (hi:i<rows.length) (hj:j<P.cellsOf e),W.cell? ⟨b,o+i*P.cellsOf e+j,none⟩=some (f i j)/\(f i j).oneCell'=true/\∀ (hj:j<rows[i].length),RdN W rows[i][j] (f i j):=by
      refine ⟨λi j=>if hij:i<rows.length/\j<P.cellsOf e then Classical.choose (hcell i j hij.1 hij.2) else undef,λi j hi hj=>?_⟩;have hs:=Classical.choose_spec (hcell i j hi hj);simp only[dif_pos (show i<rows.length/\j<P.cellsOf e from ⟨hi,hj⟩)];exact hs
     obtain ⟨f,hf⟩:=hex;obtain ⟨u0,hu0,_⟩:=hcell 0 0 (by omega) hz;rw[<-hrl];exact .sl false rows (P.cellsOf e) b o cap f (by omega) (by omega) (by simp) (λh=>h) (World.block_lt_of_cell? W _ hu0) (λr hr=>by
      obtain ⟨i,hi,rfl⟩:=List.mem_iff_getElem.1 hr;exact (hrows i hi).1) hz (λi j hi hj=>⟨(hf i j hi hj).1,(hf i j hi hj).2.1⟩) (λi j hi hj=>(hf i j hi (by rw[<-(hrows i hi).1];exact hj)).2.2 hj)
  ·split at hok
   ·rename_i pl hpl;simp only[ac,beq_iff_eq] at hok;obtain ⟨hct,hall⟩:=hok;have key:cs.length=P.cellsOf t/\∀ p∈pl,(∀ v∈(cs.drop p.1).take (P.cellsOf p.2),v.oneCell'=true)/\∃ ts,dO (RdN W) ts (((cs.drop p.1).take (P.cellsOf p.2)).toArray)/\YZ B P p.2 ts:=by
     have hpl':=hpl;unfold partsOf at hpl';split at hpl'
     ·rename_i fs hu;cases hpl';obtain ⟨xs,m,rfl,rfl,hlen,hxl,hx⟩:=DataW.trod_struct hu h;refine ⟨hlen,λp hp=>?_⟩;simp only[List.mem_map] at hp;obtain ⟨f,hf,rfl⟩:=hp;obtain ⟨i,hi,hfi⟩:=List.mem_iff_getElem.1 hf;have hfi':fs[i]? = some f:=by simp at hi;simp[hi,<-hfi]
      have h1:=hx i f hfi';have hix:i<xs.length:=by simp at hi;omega
      rw[List.getElem?_eq_getElem hix] at h1;simp only[DataW.weights,hu] at hw;exact ih m f.type _ _ (List.all_eq_true.1 hall (f.offset,f.type) (List.mem_map.2 ⟨f,hf,rfl⟩)) h1 (PY hw i f.type xs[i].1 (by simp at hi;simp[hi,<-hfi]) (by simp[hix]))
     ·rename_i k e hu;cases hpl';cases fuel with
      | zero=>simp[DataW.trod] at h
      | succ m =>
      simp only[DataW.trod,hu] at h;split at h
      ·rename_i hlen;simp only[aa] at h;obtain ⟨xs,hxs,rfl⟩:=h;refine ⟨hlen,λp hp=>?_⟩;simp only[List.mem_map,List.mem_range] at hp;obtain ⟨i,hi,rfl⟩:=hp;obtain ⟨g1,g2⟩:=mapM_some_length hxs;have hix:i<xs.length:=by rw[g1];simpa using hi
       have h1:=g2 i (by simpa using hi) hix;simp only[List.getElem_range] at h1;simp only[DataW.weights,hu] at hw;exact ih m e _ _ (List.all_eq_true.1 hall (i*P.cellsOf e,e) (List.mem_map.2 ⟨i,by simpa using hi,rfl⟩)) h1 (CJ hw _ (List.mem_map.2 ⟨xs[i],ak _,rfl⟩))
      ·cases h
     ·cases hpl'
    obtain ⟨hlen,hparts⟩:=key;refine ⟨?_,?_⟩
    ·have:=JE hct hlen.symm (λp hp=>(hparts p hp).1);simpa using this
    ·obtain ⟨ts,h1,h2⟩:=assemble (Q:=YZ B P) hct hlen.symm (λp hp=>(hparts p hp).2);simp only[List.drop_zero] at h1;refine ⟨ts,h1,.parts t pl _ ts hpl hct (by have:=h1.1;simp at this;omega) λp hp=>?_⟩;have:=(h2 p hp).2;simpa using this
   ·cases hok
end
end Go.Pv
