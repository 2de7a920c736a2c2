/-
  StructureOne: the law's function, walked.
-/
import Derived.Test.YtcdomkejkfcjlaaGreatDoorPsz2
set_option linter.unusedSimpArgs false
set_option linter.unusedVariables false
set_option maxRecDepth 100000
namespace Go.Pv
open Go Go.Proofs
noncomputable def HO:Env:=Env.of [(7,.pure x9),(10,.pure kU),(11,.pure qI),(12,.pure lH),(13,.pure oM),(14,.pure cJ),(8,.pure dO)]
def VC:FuncId→Hint:=fun f=>match f == 4 with|true=>⟨fun r=>match r == 6 with|true=>.inv [.val 6 false (.int .i64),.val 7 false (.int .i64)]|false=>match r == 11 with|true=>.inv [.val 9 false (.int .i64)]|false=>match r == 17 with|true=>.inv [.val 12 false (.int .i64)]|false=>.none,fun _ _=>none,fun _=>none⟩|false=>aU
theorem AAF:aG Tryz.prog HO:=aG.cons (x:=.pure x9) AKL (aG.cons (x:=.pure kU) WS (aG.cons (x:=.pure qI) AG1 (aG.cons (x:=.pure lH) AHB (aG.cons (x:=.pure oM) AKI (aG.cons (x:=.pure cJ) BA (aG.cons (x:=.pure dO) KC (aG.nil _)))))))
def ID (a0:aH) (a1:aM) (R:T→Prop):Prop :=
 aI [(false,Sy.bool)]
 (x9 [aB true aE a0,T.v (.int .i64 60)]) fun (y0:Bool) =>
 aC (!y0)
 (aI [(false,Sy.bool)] (dO []) fun (y1:Bool)=>R (T.v (.bool y1)))
 (aI [(false,Sy.int IntKind.i64)]
 (kU [aB true aE a0,aB true aL a1]) fun (y2:Int) =>
 aC (!decide (y2=0))
 (aI [(false,Sy.bool)] (dO []) fun (y3:Bool)=>R (T.v (.bool y3)))
 (aI [(false,Sy.str.li)] (qI [aB true aE a0])
 fun (y4:List ByteArray) =>
 a8 (Int×Int×PUnit)
 (fun (X5:Int×Int×PUnit→Prop) (s6:Int×Int×PUnit) =>
 aC (decide (s6.2.1<(↑(List.map Sy.str.enc y4).length:Int)))
 (aQ Sy.str (List.map Sy.str.enc y4) s6.2.1 fun (y7:ByteArray) =>
 aI [(false,Sy.str.li)]
 (lH [aB true aE a0,T.v (.string y7)])
 fun (y8:List ByteArray) =>
 a8 (Int×PUnit)
 (fun (X9:Int×PUnit→Prop) (s10:Int×PUnit) =>
 aC (decide (s10.1<(↑(List.map Sy.str.enc y8).length:Int)))
 (aQ Sy.str (List.map Sy.str.enc y8) s10.1 fun (y11:ByteArray) =>
 aI [(false,Sy.str),(false,Sy.bool)]
 (oM [aB true aE a0,T.v (.string y11)])
 fun (y12:ByteArray×Bool) =>
 aC (!y12.2) (R (T.v (.bool false)))
 (aQ Sy.str (List.map Sy.str.enc y4) s6.2.1
 fun (y13:ByteArray) =>
 aC (!decide (y12.1=y13)) (R (T.v (.bool false)))
 (X9 (IntKind.i64.wrap (s10.1+1),()))))
 (X5
 (IntKind.i64.wrap (s6.1+(↑(List.map Sy.str.enc y8).length:Int)),
 IntKind.i64.wrap (s6.2.1+1),())))
 (0,()))
 (a8 (Int×PUnit)
 (fun (X14:Int×PUnit→Prop) (s15:Int×PUnit) =>
 aC (decide (s15.1<(↑(List.map bB.enc a0.2.2.1).length:Int)))
 (aQ bB (List.map bB.enc a0.2.2.1) s15.1
 fun (y16:bI) =>
 aI [(false,Sy.str),(false,Sy.bool)]
 (oM [aB true aE a0,T.v (.string y16.1)])
 fun (y17:ByteArray×Bool) =>
 aC (!y17.2) (R (T.v (.bool false)))
 (aI [(false,Sy.bool)]
 (cJ
 [T.sl false (List.map Sy.str.enc y4),T.v (.string y17.1)])
 fun (y18:Bool) =>
 aC (!y18) (R (T.v (.bool false)))
 (aI [(false,Sy.str.li)]
 (lH
 [aB true aE a0,T.v (.string y17.1)])
 fun (y19:List ByteArray) =>
 aQ bB (List.map bB.enc a0.2.2.1) s15.1
 fun (y20:bI) =>
 aI [(false,Sy.bool)]
 (cJ
 [T.sl false (List.map Sy.str.enc y19),
 T.v (.string y20.1)])
 fun (y21:Bool) =>
 aC (!y21) (R (T.v (.bool false)))
 (X14 (IntKind.i64.wrap (s15.1+1),())))))
 (aC (decide (s6.1=(↑(List.map bB.enc a0.2.2.1).length:Int)))
 (aI [(false,Sy.bool)] (dO []) fun (y22:Bool) =>
 R (T.v (.bool y22)))
 (R (T.v (.bool false)))))
 (0,())))
 (0,0,())))
theorem UN ( a0 a1 R):bK aV Tryz.prog HO VC 8 4 [aB true aE a0,aB true aL a1] R=ID a0 a1 R:=by kernel_rfl
abbrev vO:Sh:=[(true,aE),(true,aL)]
def kQ (x:aH×aM):Option T:=match uZ x.1 60 with
 | true=>lZ x.1 (.v (.bool true))
 | false=>some (.v (.bool true))
noncomputable def XD:List T→Option (T):=gS vO kQ
theorem AH5 (h:∀ a0 a1 r,kQ (a0,a1)=some r→cD vO (a0,a1)→ID a0 a1 (fun y=>y=r)):aJ Tryz.prog 4 XD :=
 aR (E:=HO) (Hs:=VC) AAF aZ a6 (aN rfl) 8 ⟨_,_,Tryz.func4,rfl⟩ rfl fun x r h1 h2=>by
  obtain ⟨a0,a1⟩:=x
  rw[show Sh.bO vO (a0,a1)=[aB true aE a0,aB true aL a1] from rfl,UN]
  exact h a0 a1 r h1 h2
theorem AQ7 {d:aH} (u:UOk d) {n:Int} (hn:n≤1000000) (hf:uZ d n=true) (t:T):B0 d t=some t:=Y6 t u.okD u.okK (PE hf hn)
theorem XU {l:List ByteArray} {b:ByteArray} {K:Bool→Prop} (h:K (qP l b)):aI [(false,Sy.bool)] (cJ [T.sl false (List.map Sy.str.enc l),T.v (.string b)]) K:=aF (s:=AV) (rV ..) h
theorem AG4:aJ Tryz.prog 4 XD:=AH5 fun d m r h hb=>by
 clear hb
 unfold ID
 refine WN ?_
 cases hf:uZ d 60 with
 | false =>
  have h:some (T.v (.bool true))=some r:=by
   have h:=h
   unfold kQ at h
   rw[show uZ (d,m).1 60=false from hf] at h;exact h
  cases h
  exact dJ (fun _=>j1 rfl) fun h=>Bool.noConfusion h
 | true =>
  have h:lZ d (T.v (.bool true))=some r:=by
   have h:=h
   unfold kQ at h
   rw[show uZ (d,m).1 60=true from hf] at h;exact h
  obtain ⟨hu,rfl⟩:=iG h
  clear h
  refine dJ (fun h=>Bool.noConfusion h) fun _=>?_
  refine JR hu ?_
  refine mV (fun _=>j1 rfl) fun hc=>?_
  have k:=AS9 hu hc
  have u:=kY hu
  have es:∀ t,B0 d t=some t:=AQ7 u (by decide) hf
  have bJ:∀ {id b:ByteArray} {K:ByteArray×Bool→Prop},bQ d id=(b,true)→K (b,true)→aI [(false,Sy.str),(false,Sy.bool)] (oM [aB true aE d,T.v (.string id)]) K:=fun {id b K} hb hk =>
   aF (s:=vM) (y:=(b,true)) ((ACK ..).trans ((es _).trans (congrArg (fun z=>some (Sh.enc vM z)) hb))) hk
  have prt:∀ {id:ByteArray} {K:List ByteArray→Prop},K (fQ d id)→aI [(false,Sy.str.li)] (lH [aB true aE d,T.v (.string id)]) K:=fun hk=>aF (s:=GR) ((XM ..).trans (es _)) hk
  refine aF (s:=GR) (y:=dH d) ((W9 ..).trans (es _)) ?_
  have hsum:=ZA k
  have hfew:d.2.1.length≤60∧d.2.2.1.length≤60:=by
   simp only[uZ,Bool.and_eq_true,decide_eq_true_eq] at hf;omega
  have hbl:(dH d).length≤60:=by
   unfold dH;rw[List.length_map];exact Nat.le_trans (List.length_filter_le ..) hfew.1
  have hpl:∀ b,(fQ d b).length≤60:=fun b=>by
   unfold fQ;rw[List.length_map];exact Nat.le_trans (List.length_filter_le ..) hfew.2
  have hbk:∀ b∈dH d,∀ id∈fQ d b,bQ d id=(b,true):=fun b h1 id h2=>V6 k h1 h2
  generalize hB:dH d=B at *
  refine aS B.length (fun j s=>s.2.1=(j:Int)∧0≤s.1∧s.1+(xT (fun b=>(fQ d b).length) (B.drop j):Int)=d.2.2.1.length) ⟨rfl,Int.le_refl _,by rw[List.drop_zero,hsum];simp⟩ ?_
  rintro X j ⟨s,i,un⟩ hj ⟨rfl,h0,he⟩ hX
  dsimp only at h0 he ⊢
  refine cH (fun hlt=>?_) fun hge=>?_
  ·rw[List.length_map] at hlt
   have hlt:j<B.length:=by omega
   rw[aO (r:=.str) hlt]
   rw[List.drop_eq_getElem_cons hlt,xT] at he
   refine prt ?_
   have hb0:B[j]∈B:=List.getElem_mem hlt
   have hp0:=hpl B[j]
   have hk0:=hbk B[j] hb0
   generalize hP:fQ d B[j]=P at *
   refine aS P.length (fun k s=>s.1=(k:Int)) rfl ?_
   rintro Y q ⟨i2,un2⟩ hq rfl hY
   dsimp only
   refine cH (fun hlt2=>?_) fun hge2=>?_
   ·rw[List.length_map] at hlt2
    have hlt2:q<P.length:=by omega
    rw[aO (r:=.str) hlt2]
    refine bJ (hk0 _ (List.getElem_mem hlt2)) ?_
    refine dJ (fun h=>Bool.noConfusion h) fun _=>?_
    rw[aO (r:=.str) hlt]
    refine mV (fun h=>absurd rfl h) fun _=>?_
    refine hY _ hlt2 ?_
    show IntKind.i64.wrap ((q:Int)+1)=_
    rw[aP]<;>omega
   ·rw[List.length_map]
    have e:(xT (fun b=>(fQ d b).length) (B.drop (j+1)):Int)≥0:=by omega
    refine hX _ hlt ⟨?_,?_,?_⟩
    ·show IntKind.i64.wrap ((j:Int)+1)=_
     rw[aP]<;>omega
    ·show 0≤IntKind.i64.wrap (s+(P.length:Int))
     rw[aP]<;>omega
    ·show IntKind.i64.wrap (s+(P.length:Int))+_=_
     rw[aP]<;>omega
  ·rw[List.length_map] at hge
   have:j=B.length:=by omega
   subst this
   rw[List.drop_length] at he
   have he:s=(d.2.2.1.length:Int):=by simpa [xT] using he
   subst he
   refine aS d.2.2.1.length (fun k s=>s.1=(k:Int)) rfl ?_
   rintro Y q ⟨i2,un2⟩ hq rfl hY
   dsimp only
   refine cH (fun hlt2=>?_) fun hge2=>?_
   ·rw[List.length_map] at hlt2
    have hlt2:q<d.2.2.1.length:=by omega
    rw[aO (r:=bB) hlt2]
    obtain ⟨b,b1,b2,b3⟩:=XW k (List.getElem_mem hlt2)
    rw[hB] at b2
    refine bJ b1 ?_
    refine dJ (fun h=>Bool.noConfusion h) fun _=>?_
    refine XU ?_
    dsimp only
    rw[b2]
    refine dJ (fun h=>Bool.noConfusion h) fun _=>?_
    refine prt ?_
    rw[aO (r:=bB) hlt2]
    refine XU ?_
    rw[b3]
    refine dJ (fun h=>Bool.noConfusion h) fun _=>?_
    refine hY _ hlt2 ?_
    show IntKind.i64.wrap ((q:Int)+1)=_
    rw[aP]<;>omega
   ·rw[List.length_map]
    exact cH (fun _=>j1 rfl) fun h=>absurd rfl h
theorem AIR:∀ x,I7 (2 ^ 40) vO x→kQ x=some (.v (.bool true)):=by
 rintro ⟨d,m⟩ ⟨h,_⟩
 have h:uO (2 ^ 40) aE d:=h
 unfold kQ
 cases hf:uZ (d,m).1 60 with
 | false=>rfl
 | true=>exact iH _ (AFE (by decide) hf h)
end Go.Pv
