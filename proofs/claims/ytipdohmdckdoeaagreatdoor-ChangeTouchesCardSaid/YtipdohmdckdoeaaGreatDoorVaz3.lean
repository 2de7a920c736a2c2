/-
  ChangeTouches: what the law comes to.
-/
import Derived.Test.YtipdohmdckdoeaaGreatDoorVaz2
import Derived.Test.YtipdohmdckdoeaaGreatDoorVakj
set_option linter.defProp false
set_option linter.unusedSimpArgs false
set_option linter.unusedVariables false
set_option maxRecDepth 100000
namespace Go.Pv
open Go Go.Proofs
noncomputable def UP:Env:=Env.of [(24,.pure pP),(26,.pure B4),(19,.pure lA),(18,.pure sU),(27,.pure mS),(25,.pure mV),(9,.pure eJ)]
def U2:FuncId→Hint:=fun _=>bW
theorem LY:aH Tryz.prog UP:=.cons WB (.cons ABK (.cons JW (.cons PQ (.cons WA (.cons WG (.cons BQ (.nil _)))))))
def AE (a0:bB) (a1:bB) (R:T→Prop):Prop :=
 aE [(false,Sy.bool)]
 (pP [aG true aU a0,T.v (.int .i64 40)]) fun (y0:Bool) =>
 aF (!y0)
 (aE [(false,Sy.bool)] (eJ []) fun (y1:Bool)=>R (T.v (.bool y1)))
 (aE [(false,Sy.bool)]
 (pP [aG true aU a1,T.v (.int .i64 40)]) fun (y2:Bool) =>
 aF (!y2)
 (aE [(false,Sy.bool)] (eJ []) fun (y3:Bool)=>R (T.v (.bool y3)))
 (aE [(false,Sy.str.li)] (B4 [aG true aU a0])
 fun (y4:List ByteArray) =>
 aE [(false,Sy.str.li)] (lA [aG true aU a0])
 fun (y5:List ByteArray) =>
 aE [(false,Sy.bool)]
 (mV
 [T.sl false (List.map Sy.str.enc y4),T.sl false (List.map Sy.str.enc y5)])
 fun (y6:Bool) =>
 aF y6
 (aE [(false,Sy.str.li)]
 (sU [aG true aU a0,aG true aU a1])
 fun (y7:List ByteArray) =>
 aE [(false,Sy.str.li)]
 (mS [aG true aU a0,aG true aU a1])
 fun (y8:List ByteArray) =>
 aE [(false,Sy.bool)]
 (mV
 [T.sl false (List.map Sy.str.enc y7),
 T.sl false (List.map Sy.str.enc y8)])
 fun (y9:Bool) =>
 aF y9
 (aE [(false,Sy.str.li)]
 (sU [aG true aU a1,aG true aU a0])
 fun (y10:List ByteArray) =>
 aE [(false,Sy.str.li)]
 (mS [aG true aU a0,aG true aU a1])
 fun (y11:List ByteArray) =>
 aE [(false,Sy.bool)]
 (mV
 [T.sl false (List.map Sy.str.enc y10),
 T.sl false (List.map Sy.str.enc y11)])
 fun (y12:Bool) =>
 aF y12
 (aE [(false,Sy.bool)] (eJ []) fun (y13:Bool) =>
 R (T.v (.bool y13)))
 (R (T.v (.bool false))))
 (R (T.v (.bool false))))
 (R (T.v (.bool false)))))
abbrev vY:Sh:=[(true,aU),(true,aU)]
def mB (x:bB×bB):Option T:=some (T.v (.bool true))
noncomputable def JZ:List T→Option T:=gS vY mB
theorem TG:Of2 Tryz.prog 8 JZ mB (fF vY) AE:=HI (a1:=(true,aU)) (a2:=(true,aU)) (sp:=mB) (F:=AE) (Hs:=U2) (f:=8) (k:=8) LY bA bJ (aX rfl) ⟨_,_,Tryz.func8,rfl⟩ rfl fun _ _ _=>by kernel_rfl
theorem ADW {K:Bool→Prop} (h:K true):aE [(false,Sy.bool)] (eJ []) K:=aM (s:=[(false,.bool)]) (y:=true) rfl h
theorem PN {M:Nat}:∀ {l:List bD},(∀ e∈l,(cT (aV e)).length≤M)→(l.flatMap fun e=>cT (aV e)).length≤l.length*M
 | [],_=>by simp
 | e::l,h=>by
  have h1:=h e List.mem_cons_self
  have h2:=PN (l:=l) fun x hx=>h x (List.mem_cons_of_mem _ hx)
  rw[List.flatMap_cons,List.length_append,List.length_cons,Nat.succ_mul]
  omega
theorem ACP {o:bB} (h:tX o=true):(jP o.2).length≤1000000000:=by
 obtain ⟨hl,hok⟩:=vR h
 have h1:=PN (M:=2000010) fun e he=>Nat.le_trans (l5 _) (kH (hok e he))
 have h2:(jP o.2).length≤(o.2.flatMap fun e=>cT (aV e)).length:=Nat.le_trans (pD _ _ sL) (pD _ _ fun m=>by unfold cO;simp)
 have h3:o.2.length*2000010≤100*2000010:=Nat.mul_le_mul_right _ hl
 omega
theorem SE:aZ Tryz.prog 8 JZ:=TG fun a b r h hb=>by
 clear hb
 cases h
 unfold AE
 refine aM (s:=QR) (y:=nJ a 40) (B2 ..) ?_
 refine ABQ (fun _=>ADW rfl) fun ha=>?_
 refine aM (s:=QR) (y:=nJ b 40) (B2 ..) ?_
 refine ABQ (fun _=>ADW rfl) fun hb=>?_
 have ia:=JP (by omega) ha
 have ib:=JP (by omega) hb
 have cC:∀ {x y:bB},tX x=true→tX y=true→sU [aG true aU x,aG true aU y]=some (Sh.enc [(false,Sy.str.li)] (p8 x.2 y.2)):=fun {x y} h1 h2=>(EO ..).trans (by unfold pV;rw[h1,h2];rfl)
 have cR:mS [aG true aU a,aG true aU b]=some (Sh.enc [(false,Sy.str.li)] (p8 a.2 b.2)):=(NG ..).trans (by unfold o9;rw[ia,ib,decide_eq_true (ACP ia)];rfl)
 refine aM (s:=[(false,Sy.str.li)]) (y:=jP a.2) ((SR ..).trans (by unfold wK;rw[ia];rfl)) ?_
 refine aM (s:=[(false,Sy.str.li)]) (y:=jP a.2) ((sX ..).trans (by unfold kQ;rw[ia];rfl)) ?_
 refine aM (s:=QR) (y:=UI (jP a.2) (jP a.2)) (sW ..) ?_
 rw[pI.2 rfl]
 refine fN.2 ⟨fun _=>?_,fun h=>by cases h⟩
 refine aM (s:=[(false,Sy.str.li)]) (cC ia ib) ?_
 refine aM (s:=[(false,Sy.str.li)]) cR ?_
 refine aM (s:=QR) (y:=UI (p8 a.2 b.2) (p8 a.2 b.2)) (sW ..) ?_
 rw[pI.2 rfl]
 refine fN.2 ⟨fun _=>?_,fun h=>by cases h⟩
 refine aM (s:=[(false,Sy.str.li)]) (cC ib ia) ?_
 refine aM (s:=[(false,Sy.str.li)]) cR ?_
 refine aM (s:=QR) (y:=UI (p8 b.2 a.2) (p8 a.2 b.2)) (sW ..) ?_
 rw[RY b.2 a.2,pI.2 rfl]
 refine fN.2 ⟨fun _=>?_,fun h=>by cases h⟩
 exact ADW rfl
theorem TU:∀ x:bB×bB,U7 vY x→mB x=some (.v (.bool true)):=fun x _=>rfl
end Go.Pv
