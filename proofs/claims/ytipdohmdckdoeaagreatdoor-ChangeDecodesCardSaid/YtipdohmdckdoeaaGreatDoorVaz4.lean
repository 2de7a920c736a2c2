/-
  ChangeDecodes: the reference's equality of orders that have no edits.
  ChangeDecodes: what the law comes to.
-/
import Derived.Test.YtipdohmdckdoeaaGreatDoorVaz1
import Derived.Test.YtipdohmdckdoeaaGreatDoorVakp
import Derived.Test.YtipdohmdckdoeaaGreatDoorVaz2
import Derived.Test.YtipdohmdckdoeaaGreatDoorVakj
set_option linter.defProp false
set_option linter.unusedSimpArgs false
set_option linter.unusedVariables false
set_option maxRecDepth 100000
namespace Go.Pv
open Go Go.Proofs
def NI:List T→Option T:=fun _=>none
theorem ABJ:aZ Tryz.prog 34 NI:=⟨⟨_,Tryz.func34,rfl,rfl⟩,fun w own args vs r hG ho ha h=>by cases h⟩
noncomputable def Z8:Env:=Env.of [(34,.pure NI)]
def AAJ:FuncId→Hint:=fM 11 [(4,.inv [.val 5 false (.int .i64)])] (fun _=>bW)
theorem RG:aH Tryz.prog Z8:=.cons ABJ (.nil _)
def F8 (a0:bB) (a1:bB) (R:T→Prop):Prop :=
 aF (!decide (a0.1=a1.1)) (R (T.v (.bool false)))
 (aF
 (!decide ((↑(List.map aR.enc a0.2).length:Int)=(↑(List.map aR.enc a1.2).length:Int)))
 (R (T.v (.bool false)))
 (bM (Int×PUnit)
 (fun (X0:Int×PUnit→Prop) (s1:Int×PUnit) =>
 aF (decide (s1.1<(↑(List.map aR.enc a0.2).length:Int)))
 (a7 aR (List.map aR.enc a0.2) s1.1 fun (y2:bD) =>
 a7 aR (List.map aR.enc a1.2) s1.1 fun (y3:bD) =>
 aE [(false,Sy.bool)]
 (NI [aG true aR y2,aG true aR y3]) fun (y4:Bool) =>
 aF (!y4) (R (T.v (.bool false))) (X0 (IntKind.i64.wrap (s1.1+1),())))
 (R (T.v (.bool true))))
 (0,())))
abbrev H5:Sh:=[(true,aU),(true,aU)]
def wI (x:bB×bB):Option T:=match decide (x.1.2.length=0)&&decide (x.2.2.length=0) with
 | true=>some (T.v (.bool (decide (x.1.1=x.2.1))))
 | false=>none
noncomputable def vE:List T→Option T:=gS H5 wI
theorem NM {a0 a1}:vE [aG true aU a0,aG true aU a1]=wI (a0,a1):=cG (s:=H5) rfl (a0,a1) rfl
theorem YD:Of2 Tryz.prog 11 vE wI (fF H5) F8:=HI (a1:=(true,aU)) (a2:=(true,aU)) (sp:=wI) (F:=F8) (Hs:=AAJ) (f:=11) (k:=8) RG bA bJ (aX rfl) ⟨_,_,Tryz.func11,rfl⟩ rfl fun _ _ _=>by kernel_rfl
theorem WE:aZ Tryz.prog 11 vE:=YD fun a b r h hb=>by
 clear hb
 obtain ⟨hc,rfl⟩:=iM h
 clear h
 simp only[Bool.and_eq_true,decide_eq_true_eq,List.length_eq_zero_iff] at hc
 unfold F8
 rw[hc.1,hc.2]
 refine G5 (fun h=>?_) fun h=>?_
 ·rw[decide_eq_false h]
 rw[decide_eq_true h]
 refine G5 (fun h=>absurd rfl h) fun _=>?_
 refine cS 0 (fun k s=>s=((0:Int),())) rfl ?_
 rintro X k s hk rfl hX
 exact eP (fun h=>absurd h (by simp)) fun _=>rfl
noncomputable def vF:List T→Option T:=gD vE
theorem SJ:aZ Tryz.prog 11 vF:=WE.deep
end Go.Pv
namespace Go.Pv
open Go Go.Proofs
noncomputable def FR:Env:=Env.of [(10,.pure B1),(11,.pure vF),(12,.pure G3),(9,.pure eJ)]
def GC:FuncId→Hint:=fun _=>bW
theorem AB:aH Tryz.prog FR:=.cons PR (.cons SJ (.cons PT (.cons BQ (.nil _))))
def mG (a0:ByteArray) (R:T→Prop):Prop :=
 aF (decide (3000<(↑(ByteArray.size a0):Int)))
 (aE [(false,Sy.bool)] (eJ []) fun (y0:Bool)=>R (T.v (.bool y0)))
 (aE [(true,aU),(false,Sy.int IntKind.i64)]
 (B1 [T.v (.string a0)]) fun (y1:bB×Int) =>
 aF (!decide (y1.2=0))
 (aE [(false,Sy.bool)]
 (vF
 [aG true aU y1.1,
 T.agg [T.v (.string { data:=#[] }),T.v (Value.slice none 0 0)]])
 fun (y2:Bool) =>
 aF y2
 (aE [(false,Sy.bool)] (eJ []) fun (y3:Bool) =>
 R (T.v (.bool y3)))
 (R (T.v (.bool false))))
 (aE [(false,Sy.str)] (G3 [aG true aU y1.1]) fun (y4:ByteArray) =>
 aF (decide (y4=a0))
 (aE [(false,Sy.bool)] (eJ []) fun (y5:Bool) =>
 R (T.v (.bool y5)))
 (R (T.v (.bool false)))))
abbrev jV:Sh:=[(false,Sy.str)]
def gF (s:ByteArray):Option T:=some (T.v (.bool true))
noncomputable def vD:List T→Option T:=gS jV gF
theorem DV:RO Tryz.prog 3 vD gF (fF jV) mG:=xL (a1:=(false,Sy.str)) (sp:=gF) (F:=mG) (Hs:=GC) (f:=3) (k:=8) AB bA bJ (aX rfl) ⟨_,_,Tryz.func3,rfl⟩ rfl fun _ _=>by kernel_rfl
theorem VJ {K:Bool→Prop} (h:K true):aE [(false,Sy.bool)] (eJ []) K:=aM (s:=[(false,.bool)]) (y:=true) rfl h
theorem VU {s:ByteArray} (h:¬ (uU s).2=0):(uU s).1=UH:=by
 unfold uU at h ⊢
 split
 ·rename_i he;rw[if_pos he] at h;exact absurd rfl h
 ·rfl
theorem OK {o:bB} (h:o=UH):vF [aG true aU o,T.agg [T.v (.string { data:=#[] }),T.v (Value.slice none 0 0)]]=some (Sh.enc QR true):=by
 subst h
 show vE [aG true aU UH,aG true aU UH]=_
 rw[NM]
 rfl
theorem DQ:aZ Tryz.prog 3 vD:=DV fun s r h hb=>by
 clear hb
 cases h
 unfold mG
 refine eP (fun _=>VJ rfl) fun h3=>?_
 have hs:s.size≤1000000:=by omega
 refine aM (s:=OD) (y:=uU s) ((EP ..).trans (by unfold lG;rw[decide_eq_true hs])) ?_
 refine G5 (fun hne=>?_) fun he=>?_
 ·have hz:=VU hne
  refine aM (s:=QR) (y:=true) (OK hz) ?_
  exact fN.2 ⟨fun _=>VJ rfl,fun h=>by cases h⟩
 ·obtain ⟨h1,h2⟩:=AD2 hs he
  refine aM (s:=[(false,Sy.str)]) (y:=p9 (uU s).1) ((ER ..).trans (by unfold zU;rw[h2];rfl)) ?_
  exact eP (fun _=>VJ rfl) fun h=>absurd h1 h
theorem DW:∀ x:ByteArray,U7 jV x→gF x=some (.v (.bool true)):=fun x _=>rfl
end Go.Pv
