/-
  Functions of the library that shorten or sort one array of strings of the caller's own, by their contracts.
-/
import Derived.Test.YtcnfagefgkblkaaGreatDoorVrin
import Derived.Test.YtcnfagefgkblkaaGreatDoorVrkl
import Derived.Shelf.SlicesE.DeleteFunc
set_option linter.defProp false
set_option linter.unusedSimpArgs false
set_option linter.unusedVariables false
namespace Go.Pv
open Go Go.RowKit Go.Sort Go.Proofs
def BGD:List T->Option (List UInt8)
 | [.v (.string b)]=>some b.data.toList
 | _=>none
def ET:List (List T)->Option (List (List UInt8))
 | []=>some []
 | r::l=>match BGD r,ET l with
  | some a,some m=>some (a::m)
  | _,_=>none
def AXN {r:List T} {a:List UInt8} (h:BGD r=some a):r=[.v (encStr a)]:=by
 unfold BGD at h;split at h
 ·cases h;rfl
 ·cases h
def DI:∀ rows l,ET rows=some l->rows=l.map λa=>[.v (encStr a)]
 | [],_,h=>by cases h;rfl
 | r::rs,l,h=>by
  unfold ET at h;split at h
  ·rename_i a m e1 e2;cases h;rw[List.map_cons,<-DI rs m e2,AXN e1]
  ·cases h
def AO:∀ L:List iII,ET (List.map Sy.str.enc L)=some (L.map λb=>b.data.toList)
 | []=>rfl
 | a::l=>by
  show (match BGD [T.v (.string a)],ET (List.map Sy.str.enc l) with
   | some a,some m=>some (a::m)
   | _,_=>none)=_
  rw[AO l];rfl
def IE (q:List (List UInt8)->List (List UInt8)) (okA:List T->Bool) (b:Bool) (rows:List (List T)) (ts:List T):Option (List (List T)):=match okA ts&&(b || !rows.isEmpty) with
 | true=>(ET rows).map λl=>(q l).map λa=>[.v (encStr a)]
 | false=>none
def P3 {P:Program} {f:FuncId} (q:List (List UInt8)->List (List UInt8)) (hq:∀ l,(q l).length<=l.length) (hq0:q []=[]) (okA:List T->Bool) (b:Bool) (tv:Array Value)
  (hts:∀ (ts:List T) (w:World) (cx:Cx) (ρ:Nat->Option Loc) (σ:Nat->Option bE) (vs:List Value),okA ts=true->(∀ i (h:i<ts.length),Rd w (Own cx ρ σ) ρ (.p ts[i]) (vs.getD i undef))->vs.length=ts.length->vs=tv.toList)
  (hentry:∃ fn,P.funcs[f]? = some fn/\(fn.name == "runtime.NumGoroutine")=false/\fn.body.isNone=false)
  (h:∀ (bJ cap:Nat) (zs:List (List UInt8)) (w:World),Holds encStr w bJ 0 zs.toArray->bJ<w.heap.size->zs.length<=2 ^ 47->zs.length<=cap ->
   Calls P f (#[.slice (some ⟨bJ,0,none⟩) zs.length cap]++tv) w λe w'=>e = .returned (.slice (some ⟨bJ,0,none⟩) (q zs).length cap)/\∃ n,w'=putRow encStr (Sort.ahead w n) bJ 0 (q zs++List.replicate (zs.length-(q zs).length) []).toArray)
  (h0:b=true->∀ (a:Option Addr) (cap:Nat) (w:World),Calls P f (#[.slice a 0 cap]++tv) w λe w'=>e = .returned (.slice a 0 cap)/\w'=w) :
  cB P f (j5 1 (IE q okA b)):=by
 refine ⟨hentry,λcx ρ σ n w args vs d σ' n' hP hG hI ha hg=>?_⟩;unfold j5 at hg;split at hg
 case h_2=>cases hg
 rename_i k rest;split at hg
 case h_2=>cases hg
 rename_i z' rows hσ;split at hg
 case h_2=>cases hg
 rename_i ts hz' hts';have hz':z'=1:=of_decide_eq_true hz';subst hz';simp only[aa,Prod.mk.injEq] at hg;obtain ⟨rows',hg,rfl,rfl,rfl⟩:=hg;unfold IE at hg;split at hg
 case h_2=>cases hg
 rename_i hok;rw[ac] at hok;obtain ⟨hok,hbr⟩:=hok;simp only[aa] at hg;obtain ⟨l,hl,rfl⟩:=hg;have hrows:=DI rows l hl;have e:=gR hts';subst e;have hvs:∃ v1,vs = #[v1]++tv/\Rd w (Own cx ρ σ) ρ (.own k) v1:=by
  have hs:vs.size=ts.length+1:=by rw[ha.1];simp
  obtain ⟨vl⟩:=vs
  match vl,hs with
  | v1::vr,hs =>
   have hr:vr=tv.toList:=by
    refine hts ts w cx ρ σ vr hok (λi hi=>?_) (by simpa using hs);have:=ha.2 (i+1) (by simpa using hi);simpa using this
   subst hr;refine ⟨v1,?_,by simpa using ha.2 0 (by simp)⟩;apply Array.ext';simp
 obtain ⟨v1,rfl,g1⟩:=hvs;subst hP;have hlr:rows.length=l.length:=by rw[hrows];simp
 cases g1 with
 | dC _ lc a hρ hL =>
  obtain ⟨lc',hρ',hbox⟩:=hI.boxes k _ hσ;rw[hρ] at hρ';cases hρ';obtain ⟨ro,z,he⟩:=hbox.2 hL;have hr0:rows=[]:=by cases he;rfl
  have hl0:l=[]:=by
   rw[hr0] at hrows;simpa using hrows.symm
  subst hl0;rw[hr0,List.isEmpty_nil,Bool.not_true,Bool.or_false] at hbr;refine (h0 hbr a 0 w).mono ?_;rintro e w' ⟨rfl,rfl⟩;obtain ⟨m1,m2⟩:=hI.YV (k₀:=k) (ro:=false) (z:=1) hL (ak n) (λx hx=>by rw[hσ] at hx;cases hx;rfl);rw[hq0];exact ⟨_,_,rfl,m1,m2,.dC n lc a (fS ..) hL⟩
 | own _ lc hρ hL hLC hCm =>
  obtain ⟨c,ho,hsz,hLr,hcs,hLC',hZ,hsm,hwid,hc,hone⟩:=I7 hI hσ hρ hL;have hget:∀ j (hj:j<l.length),c[j]? = some (encStr l[j]):=λj hj=>by
   obtain ⟨v,q1,q2⟩:=hc j 0 (by omega) (by rw[hwid _ (aj (by omega))];omega);have e:rows[j]=[.v (encStr l[j])]:=by simp[hrows]
   simp only[e,List.getElem_cons_zero] at q2;cases q2 with
   | v=>simpa using q1
  have hHolds:Holds encStr w lc.bJ 0 l.toArray:=by
   intro j hj;have hj':j<l.length:=by simpa using hj
   refine ⟨?_,by simp[World.frozen?,ho]⟩;simp only[World.cell?,ho,Nat.zero_add];simp only[Option.isSome_none,Bool.false_eq_true,if_false];rw[hget j hj'];simp[hj']
  have hblk:lc.bJ<w.heap.size:=(Array.getElem?_eq_some_iff.1 ho).1;rw[hLr,hlr];refine (h lc.bJ lc.C l w hHolds hblk (by omega) (by omega)).mono ?_;rintro e w' ⟨rfl,m,rfl⟩;have hql:=hq l;have hdl:(q l++List.replicate (l.length-(q l).length) ([]:List UInt8)).length=l.length:=by simp;omega
  obtain ⟨d,hd⟩:∃ d,d=q l++List.replicate (l.length-(q l).length) ([]:List UInt8):=⟨_,rfl⟩
  rw[<-hd] at hdl ⊢;have hat:=KY (enc:=encStr) (n:=m) d.toArray ho;have hgd:∀ i,i<(q l).length->(putCells encStr 0 d.toArray c)[i]? = some (encStr ((q l).getD i [])):=λi hi=>by
   have hi2:i<l.length:=by omega
   have e:d[i]? = (q l)[i]? := by rw[hd,List.getElem?_append_left hi]
   have e2:d[i]? = some (q l)[i]:=by rw[e,List.getElem?_eq_getElem hi]
   have hid:i<d.length:=by omega
   have e3:d[i]=(q l)[i]:=by rw[List.getElem?_eq_getElem hid] at e2;exact Option.some.inj e2
   simp[putCells,hget i hi2,hid,hi,e3]
  have ht:=wT ho hat (by simp[putCells]) (by simp[putRow,mapBlock,Sort.ahead]) (λb hb=>yO _ hb) rfl rfl rfl;obtain ⟨q1,q2,q3⟩:=A64 hI ht hσ hρ rfl (λi h=>⟨hL,Option.some.inj h⟩) (z:=1) (cap:=lc.C) (rows:=(q l).map λa=>[.v (encStr a)]) hat (by omega) (by simp;omega) hCm (by simp;omega) (by simp[putCells,hcs]) (by simp;omega)
   (λr hr=>by
    simp only[List.mem_map] at hr;obtain ⟨a,_,rfl⟩:=hr;rfl)
   (λi j hi hj=>by
    have hi':i<(q l).length:=by simpa using hi
    have hj':j=0:=by
     have:j<1:=by simpa using hj
     omega
    subst hj';refine ⟨encStr ((q l).getD i []),by simpa using hgd i hi',?_⟩;have e:((q l).map λa=>[T.v (encStr a)])[i][0] = .v (encStr ((q l).getD i [])):=by simp[hi']
    rw[e];exact .v _)
   (λp v hp=>by
    simp only[putCells,Array.getElem?_mapIdx,aa] at hp;obtain ⟨u,hu,rfl⟩:=hp;split
    ·rfl
    ·exact hone p u hu)
  refine ⟨_,_,rfl,q1,q2,?_⟩;simpa using q3
end Go.Pv
