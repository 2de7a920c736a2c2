/-
  Paths of an accepted design; an accepted design stays one without a seam, a requirement, its packages. In plain words.
  StructurePaths: chain and the law's function, walked.
-/
import Derived.Test.YtcdomkejkfcjlaaGreatDoorPsz2
set_option linter.unusedSimpArgs false
set_option linter.unusedVariables false
set_option maxRecDepth 100000
namespace Go.Pv
open Go Go.Proofs
structure IY (d:aH) (l:List ByteArray) (last:ByteArray):Prop where
 pos:0<l.length
 len:l.length≤8
 last:l.getLast? = some last
 node:∀ (i:Nat) (h:i<l.length),∃ x,bD d l[i]=some x∧(x.2.1=1↔i=0)∧∀ (j:Nat) (hj:j<l.length),j+1=i→x.2.2=l[j]
theorem OI {d:aH} {id:ByteArray} (hu:(up d id).2=true) (hl:(up d id).1.length≤8):IY d (B3 d id) id:=by
 have hc:=ARJ hu
 obtain ⟨_,y,x,a2,a3,a4⟩:=TR hc
 have hs:=ZW hc
 have hne:=AMW hc
 obtain ⟨u,hu2⟩:=AL8 hu
 have hpos:0<(up d id).1.length:=List.length_pos_iff.2 hne
 refine ⟨by unfold B3;rw[List.length_reverse];exact hpos,by unfold B3;rw[List.length_reverse];exact hl,by rw[hu2];simp,?_⟩
 unfold B3
 generalize (up d id).1=c at *
 intro i hi
 rw[List.length_reverse] at hi
 rw[List.getElem_reverse]
 by_cases h0:i=0
 ·subst h0
  refine ⟨x,?_,⟨fun _=>rfl,fun _=>a4⟩,fun j hj e=>by omega⟩
  rw[List.getLast?_eq_getElem?] at a2
  have e:c[c.length-1-0]'(by omega)=y:=by
   have h:=List.getElem?_eq_getElem (l:=c) (i:=c.length-1) (by omega)
   rw[h] at a2
   exact Option.some.inj a2
  rw[e];exact a3
 ·obtain ⟨z,b1,b2,b3⟩:=hs (c.length-1-i) (by omega)
  refine ⟨z,b1,⟨fun h=>absurd h b2,fun h=>absurd h h0⟩,fun j hj e=>?_⟩
  rw[List.getElem_reverse,b3]
  congr 1
  omega
theorem AHJ {d:aH} (k:ABA d) {p:bI} (hp:p∈d.2.2.1):fR d p.1=B3 d (dC p)∧IY d (fR d p.1) (dC p):=by
 have e:fR d p.1=B3 d (dC p):=by
  unfold fR
  rw[k.v.none p hp,show partOf d p.1=some p from qH k.n2 hp];rfl
 obtain ⟨n,n1,n2⟩:=k.nd p hp
 refine ⟨e,?_⟩
 rw[e,←n2]
 exact OI (k.up n n1).1 (k.up n n1).2
theorem AHI {d:aH} (k:ABA d) {n:cW} (hn:n∈d.2.1):IY d (fR d n.1) n.1:=by
 have e:fR d n.1=B3 d n.1:=by
  unfold fR
  rw[show bD d n.1=some n from qH k.n1 hn];rfl
 rw[e]
 exact OI (k.up n hn).1 (k.up n hn).2
section
variable {x d : aH}
end
end Go.Pv
namespace Go.Pv
open Go Go.Proofs
noncomputable def C4:Env:=Env.of [(41,.pure bV)]
def NG:FuncId→Hint:=fun f=>match f == 15 with|true=>⟨fun r=>match r == 4 with|true=>.inv [.val 7 false (.int .i64)]|false=>.none,fun _ _=>none,fun _=>none⟩|false=>aU
theorem TY:aG Tryz.prog C4:=aG.cons (x:=.pure bV) j4 (aG.nil _)
def DO (a0:aH) (a1:List ByteArray) (a2:ByteArray) (R:T→Prop):Prop :=
 aC (decide ((↑(List.map Sy.str.enc a1).length:Int)=0)) (R (T.v (.bool false)))
 (aC (decide (8<(↑(List.map Sy.str.enc a1).length:Int))) (R (T.v (.bool false)))
 (aQ Sy.str (List.map Sy.str.enc a1)
 (IntKind.i64.wrap ((↑(List.map Sy.str.enc a1).length:Int)-1)) fun (y0:ByteArray) =>
 aC (!decide (y0=a2)) (R (T.v (.bool false)))
 (a8 (Int×PUnit)
 (fun (X1:Int×PUnit→Prop) (s2:Int×PUnit) =>
 aC (decide (s2.1<(↑(List.map Sy.str.enc a1).length:Int)))
 (aQ Sy.str (List.map Sy.str.enc a1) s2.1 fun (y3:ByteArray) =>
 aI [(true,bM),(false,Sy.bool)]
 (bV [aB true aE a0,T.v (.string y3)])
 fun (y4:cW×Bool) =>
 aC (!y4.2) (R (T.v (.bool false)))
 (aC (!decide (decide (y4.1.2.1=1)=decide (s2.1=0)))
 (R (T.v (.bool false)))
 (aC (decide (0<s2.1))
 (aQ Sy.str (List.map Sy.str.enc a1) (IntKind.i64.wrap (s2.1-1))
 fun (y5:ByteArray) =>
 aC (!decide (y4.1.2.2=y5)) (R (T.v (.bool false)))
 (X1 (IntKind.i64.wrap (s2.1+1),())))
 (X1 (IntKind.i64.wrap (s2.1+1),())))))
 (R (T.v (.bool true))))
 (0,()))))
theorem QB ( a0 a1 a2 R):bK aV Tryz.prog C4 NG 8 15 [aB true aE a0,aB false Sy.str.li a1,aB false Sy.str a2] R=DO a0 a1 a2 R:=by kernel_rfl
abbrev wU:Sh:=[(true,aE),(false,Sy.str.li),(false,Sy.str)]
noncomputable def iX (x:aH×List ByteArray×ByteArray):Option T:=match Classical.propDecidable (IY x.1 x.2.1 x.2.2) with
 | .isTrue _=>some (T.v (.bool true))
 | .isFalse _=>none
noncomputable def jD:List T→Option (T):=gS wU iX
theorem RW {a0 a1 a2}:jD [aB true aE a0,T.sl false (List.map Sy.str.enc a1),T.v (.string a2)]=iX (a0,a1,a2):=a7 (s:=wU) rfl (a0,a1,a2) rfl
theorem AC7 (h:∀ a0 a1 a2 r,iX (a0,a1,a2)=some r→cD wU (a0,a1,a2)→DO a0 a1 a2 (fun y=>y=r)):aJ Tryz.prog 15 jD :=
 aR (E:=C4) (Hs:=NG) TY aZ a6 (aN rfl) 8 ⟨_,_,Tryz.func15,rfl⟩ rfl fun x r h1 h2=>by
  obtain ⟨a0,a1,a2⟩:=x
  rw[show Sh.bO wU (a0,a1,a2)=[aB true aE a0,aB false Sy.str.li a1,aB false Sy.str a2] from rfl,QB]
  exact h a0 a1 a2 r h1 h2
theorem AJ0 {d:aH} {l:List ByteArray} {x:ByteArray} (h:IY d l x):iX (d,l,x)=some (T.v (.bool true)):=by
 unfold iX
 split
 ·rfl
 ·rename_i hn _;exact absurd h hn
theorem AJZ {d:aH} {l:List ByteArray} {x:ByteArray} {r:T} (h:iX (d,l,x)=some r):IY d l x∧r=T.v (.bool true):=by
 unfold iX at h
 split at h
 ·rename_i hg _;cases h;exact ⟨hg,rfl⟩
 ·cases h
theorem AHY {d:aH} {id:ByteArray} {x:cW} (h:bD d id=some x) {K:cW×Bool→Prop} (hk:K (x,true)):aI [(true,bM),(false,Sy.bool)] (bV [aB true aE d,T.v (.string id)]) K:=oT (by rw[h];exact hk)
theorem ABZ:aJ Tryz.prog 15 jD:=AC7 fun d l x r h hb=>by
 clear hb
 obtain ⟨hg,rfl⟩:=AJZ h
 clear h
 have h1:=hg.pos
 have h2:=hg.len
 have h3:=hg.last
 unfold DO
 refine cH (fun h=>?_) fun _=>?_
 ·rw[List.length_map] at h;omega
 refine cH (fun h=>?_) fun _=>?_
 ·rw[List.length_map] at h;omega
 have e:IntKind.i64.wrap (((List.map Sy.str.enc l).length:Int)-1)=((l.length-1:Nat):Int):=by
  rw[List.length_map,aP]<;>omega
 rw[e,aO (r:=.str) (show l.length-1<l.length by omega)]
 have e2:l[l.length-1]'(by omega)=x:=by
  rw[List.getLast?_eq_getElem?,List.getElem?_eq_getElem (show l.length-1<l.length by omega)] at h3
  exact Option.some.inj h3
 refine mV (fun h=>absurd e2 h) fun _=>?_
 refine aS l.length (fun k s=>s.1=(k:Int)) rfl ?_
 rintro X k ⟨i,un⟩ hk rfl hX
 dsimp only
 refine cH (fun hlt=>?_) fun hge=>?_
 ·rw[List.length_map] at hlt
  have hlt:k<l.length:=by omega
  obtain ⟨z,z1,z2,z3⟩:=hg.node k hlt
  have next:X (IntKind.i64.wrap ((k:Int)+1),()):=hX _ hlt (by
   show IntKind.i64.wrap ((k:Int)+1)=_
   rw[aP]<;>omega)
  rw[aO (r:=.str) hlt]
  refine AHY z1 ?_
  refine dJ (fun h=>Bool.noConfusion h) fun _=>?_
  refine mV (fun h=>absurd ?_ h) fun _=>?_
  ·have:(z.2.1=1)↔((k:Int)=0):=z2.trans ⟨fun h=>by omega,fun h=>by omega⟩
   exact decide_eq_decide.2 this
  refine cH (fun h=>?_) fun _=>next
  have ek:IntKind.i64.wrap ((k:Int)-1)=((k-1:Nat):Int):=by rw[aP]<;>omega
  dsimp only
  rw[ek,aO (r:=.str) (show k-1<l.length by omega)]
  exact mV (fun h=>absurd (z3 (k-1) (by omega) (by omega)) h) fun _=>next
 ·rfl
noncomputable def yQ:Env:=Env.of [(7,.pure x9),(10,.pure kU),(16,.pure oO),(15,.pure jD),(8,.pure dO)]
def I4:FuncId→Hint:=fun f=>match f == 5 with|true=>⟨fun r=>match r == 4 with|true=>.inv [.val 5 false (.int .i64)]|false=>match r == 9 with|true=>.inv [.val 6 false (.int .i64)]|false=>.none,fun _ _=>none,fun _=>none⟩|false=>aU
theorem P5:aG Tryz.prog yQ:=aG.cons (x:=.pure x9) AKL (aG.cons (x:=.pure kU) WS (aG.cons (x:=.pure oO) AKN (aG.cons (x:=.pure jD) ABZ (aG.cons (x:=.pure dO) KC (aG.nil _)))))
def yZ (a0:aH) (a1:aM) (R:T→Prop):Prop :=
 aI [(false,Sy.bool)]
 (x9 [aB true aE a0,T.v (.int .i64 60)]) fun (y0:Bool) =>
 aC (!y0)
 (aI [(false,Sy.bool)] (dO []) fun (y1:Bool)=>R (T.v (.bool y1)))
 (aI [(false,Sy.int IntKind.i64)]
 (kU [aB true aE a0,aB true aL a1]) fun (y2:Int) =>
 aC (!decide (y2=0))
 (aI [(false,Sy.bool)] (dO []) fun (y3:Bool)=>R (T.v (.bool y3)))
 (a8 (Int×PUnit)
 (fun (X4:Int×PUnit→Prop) (s5:Int×PUnit) =>
 aC (decide (s5.1<(↑(List.map bB.enc a0.2.2.1).length:Int)))
 (aQ bB (List.map bB.enc a0.2.2.1) s5.1 fun (y6:bI) =>
 aI [(false,Sy.str.li)]
 (oO [aB true aE a0,T.v (.string y6.1)])
 fun (y7:List ByteArray) =>
 aQ bB (List.map bB.enc a0.2.2.1) s5.1 fun (y8:bI) =>
 aI [(false,Sy.bool)]
 (jD
 [aB true aE a0,T.sl false (List.map Sy.str.enc y7),
 T.v (.string y8.2.2.2.1)])
 fun (y9:Bool) =>
 aC (!y9) (R (T.v (.bool false)))
 (X4 (IntKind.i64.wrap (s5.1+1),())))
 (a8 (Int×PUnit)
 (fun (X10:Int×PUnit→Prop) (s11:Int×PUnit) =>
 aC (decide (s11.1<(↑(List.map bM.enc a0.2.1).length:Int)))
 (aQ bM (List.map bM.enc a0.2.1) s11.1 fun (y12:cW) =>
 aI [(false,Sy.str.li)]
 (oO [aB true aE a0,T.v (.string y12.1)])
 fun (y13:List ByteArray) =>
 aQ bM (List.map bM.enc a0.2.1) s11.1 fun (y14:cW) =>
 aI [(false,Sy.bool)]
 (jD
 [aB true aE a0,T.sl false (List.map Sy.str.enc y13),
 T.v (.string y14.1)])
 fun (y15:Bool) =>
 aC (!y15) (R (T.v (.bool false)))
 (X10 (IntKind.i64.wrap (s11.1+1),())))
 (aI [(false,Sy.bool)] (dO []) fun (y16:Bool) =>
 R (T.v (.bool y16))))
 (0,())))
 (0,())))
theorem ML ( a0 a1 R):bK aV Tryz.prog yQ I4 8 5 [aB true aE a0,aB true aL a1] R=yZ a0 a1 R:=by kernel_rfl
abbrev nR:Sh:=[(true,aE),(true,aL)]
def gM (x:aH×aM):Option T:=match uZ x.1 60 with
 | true=>lZ x.1 (.v (.bool true))
 | false=>some (.v (.bool true))
noncomputable def KP:List T→Option (T):=gS nR gM
theorem YV (h:∀ a0 a1 r,gM (a0,a1)=some r→cD nR (a0,a1)→yZ a0 a1 (fun y=>y=r)):aJ Tryz.prog 5 KP :=
 aR (E:=yQ) (Hs:=I4) P5 aZ a6 (aN rfl) 8 ⟨_,_,Tryz.func5,rfl⟩ rfl fun x r h1 h2=>by
  obtain ⟨a0,a1⟩:=x
  rw[show Sh.bO nR (a0,a1)=[aB true aE a0,aB true aL a1] from rfl,ML]
  exact h a0 a1 r h1 h2
theorem JQ {d:aH} {l:List ByteArray} {x:ByteArray} (h:IY d l x) {K:Bool→Prop} (hk:K true):aI [(false,Sy.bool)] (jD [aB true aE d,T.sl false (List.map Sy.str.enc l),T.v (.string x)]) K:=aF (s:=AV) (y:=true) ((RW ..).trans (AJ0 h)) hk
theorem WY:aJ Tryz.prog 5 KP:=YV fun d m r h hb=>by
 clear hb
 unfold yZ
 refine WN ?_
 cases hf:uZ d 60 with
 | false =>
  have h:some (T.v (.bool true))=some r:=by
   have h:=h
   unfold gM at h
   rw[show uZ (d,m).1 60=false from hf] at h;exact h
  cases h
  exact dJ (fun _=>j1 rfl) fun h=>Bool.noConfusion h
 | true =>
  have h:lZ d (T.v (.bool true))=some r:=by
   have h:=h
   unfold gM at h
   rw[show uZ (d,m).1 60=true from hf] at h;exact h
  obtain ⟨hu,rfl⟩:=iG h
  clear h
  refine dJ (fun h=>Bool.noConfusion h) fun _=>?_
  refine JR hu ?_
  refine mV (fun _=>j1 rfl) fun hc=>?_
  have k:=AS9 hu hc
  have u:=kY hu
  have hfew:d.2.1.length≤60∧d.2.2.1.length≤60:=by
   simp only[uZ,Bool.and_eq_true,decide_eq_true_eq] at hf;omega
  have pth:∀ {id:ByteArray} {K:List ByteArray→Prop},K (fR d id)→aI [(false,Sy.str.li)] (oO [aB true aE d,T.v (.string id)]) K:=fun hk=>aF (s:=GR) ((ACQ ..).trans (AL1 _ u.okD)) hk
  refine aS d.2.2.1.length (fun k s=>s.1=(k:Int)) rfl ?_
  rintro Y q ⟨i2,un2⟩ hq rfl hY
  dsimp only
  refine cH (fun hlt2=>?_) fun hge2=>?_
  ·rw[List.length_map] at hlt2
   have hlt2:q<d.2.2.1.length:=by omega
   rw[aO (r:=bB) hlt2]
   refine pth ?_
   rw[aO (r:=bB) hlt2]
   refine JQ (AHJ k (List.getElem_mem hlt2)).2 ?_
   refine dJ (fun h=>Bool.noConfusion h) fun _=>?_
   refine hY _ hlt2 ?_
   show IntKind.i64.wrap ((q:Int)+1)=_
   rw[aP]<;>omega
  ·refine aS d.2.1.length (fun k s=>s.1=(k:Int)) rfl ?_
   rintro Z q ⟨i2,un2⟩ hq rfl hZ
   dsimp only
   refine cH (fun hlt2=>?_) fun hge2=>j1 rfl
   rw[List.length_map] at hlt2
   have hlt2:q<d.2.1.length:=by omega
   rw[aO (r:=bM) hlt2]
   refine pth ?_
   rw[aO (r:=bM) hlt2]
   refine JQ (AHI k (List.getElem_mem hlt2)) ?_
   refine dJ (fun h=>Bool.noConfusion h) fun _=>?_
   refine hZ _ hlt2 ?_
   show IntKind.i64.wrap ((q:Int)+1)=_
   rw[aP]<;>omega
theorem ZB:∀ x,I7 (2 ^ 40) nR x→gM x=some (.v (.bool true)):=by
 rintro ⟨d,m⟩ ⟨h,_⟩
 have h:uO (2 ^ 40) aE d:=h
 unfold gM
 cases hf:uZ (d,m).1 60 with
 | false=>rfl
 | true=>exact iH _ (AFE (by decide) hf h)
end Go.Pv
