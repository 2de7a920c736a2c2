/-
  shipyardref19.Touches.
  ChangeTouches, plain: what orders name.
  shipyardref16.Few, shipyardref19.Few.
  shipyardref20.with, Touched, Conflicts, Few.
  VersionChanges: maps of records keyed by strings, and ranges over them.
  change.Touched, Conflicts.
  change.Conflicts.
  Chapter 20's examples: what Encode, Decode and Conflicts answer there.
  The examples of chapter 20, run by the kernel.
-/
import Derived.Test.YtipdohmdckdoeaaGreatDoorVaz1
import Derived.Test.YtipdohmdckdoeaaGreatDoorVakn
import Derived.Test.YtipdohmdckdoeaaGreatDoorVakp
import Derived.KernelRfl
set_option linter.defProp false
set_option linter.unusedSimpArgs false
set_option linter.unusedVariables false
set_option maxRecDepth 100000
namespace Go.Pv
open Go Go.Proofs
noncomputable def IJ:Env:=Env.of [(72,.pure bY)]
def IY:FuncId→Hint:=fM 49 [(24,.inv [.val 4 false (.li .str),.val 5 false (.int .i64)])] (fun _=>bW)
theorem DH:aH Tryz.prog IJ:=.cons SK (.nil _)
def nX (a0:bD) (R:T→Prop):Prop :=
 aF (decide (a0.1=1))
 (bM (List ByteArray×Int×PUnit)
 (fun (X0:List ByteArray×Int×PUnit→Prop) (s1:List ByteArray×Int×PUnit) =>
 aF (decide (s1.2.1<(↑2:Int)))
 (a7 Sy.str
 [[T.v (.string a0.2.2.2.1.1)],
 [T.v (.string a0.2.2.2.1.2.2)]]
 s1.2.1 fun (y2:ByteArray) =>
 aE [(false,Sy.str.li)]
 (bY [T.sl false (List.map Sy.str.enc s1.1),T.v (.string y2)])
 fun (y3:List ByteArray) =>
 bP Sy.str (List.map Sy.str.enc y3) fun (y4:List ByteArray) =>
 X0 (y4,IntKind.i64.wrap (s1.2.1+1),()))
 (R (T.sl false (List.map Sy.str.enc s1.1))))
 ([],0,()))
 (aF (decide (a0.1=3))
 (bM (List ByteArray×Int×PUnit)
 (fun (X5:List ByteArray×Int×PUnit→Prop) (s6:List ByteArray×Int×PUnit) =>
 aF (decide (s6.2.1<(↑2:Int)))
 (a7 Sy.str
 [[T.v (.string a0.2.2.2.2.1.1)],
 [T.v (.string a0.2.2.2.2.1.2.2.2.1)]]
 s6.2.1 fun (y7:ByteArray) =>
 aE [(false,Sy.str.li)]
 (bY [T.sl false (List.map Sy.str.enc s6.1),T.v (.string y7)])
 fun (y8:List ByteArray) =>
 bP Sy.str (List.map Sy.str.enc y8) fun (y9:List ByteArray) =>
 X5 (y9,IntKind.i64.wrap (s6.2.1+1),()))
 (R (T.sl false (List.map Sy.str.enc s6.1))))
 ([],0,()))
 (aF (decide (a0.1=5))
 (bM (List ByteArray×Int×PUnit)
 (fun (X10:List ByteArray×Int×PUnit→Prop) (s11:List ByteArray×Int×PUnit) =>
 aF (decide (s11.2.1<(↑2:Int)))
 (a7 Sy.str
 [[T.v (.string a0.2.2.2.2.1.1)],
 [T.v (.string a0.2.2.2.2.1.2.2.2.1)]]
 s11.2.1 fun (y12:ByteArray) =>
 aE [(false,Sy.str.li)]
 (bY [T.sl false (List.map Sy.str.enc s11.1),T.v (.string y12)])
 fun (y13:List ByteArray) =>
 bP Sy.str (List.map Sy.str.enc y13) fun (y14:List ByteArray) =>
 X10 (y14,IntKind.i64.wrap (s11.2.1+1),()))
 (R (T.sl false (List.map Sy.str.enc s11.1))))
 ([],0,()))
 (aF (decide (a0.1=6))
 (bM (List ByteArray×Int×PUnit)
 (fun (X15:List ByteArray×Int×PUnit→Prop) (s16:List ByteArray×Int×PUnit) =>
 aF (decide (s16.2.1<(↑2:Int)))
 (a7 Sy.str
 [[T.v (.string a0.2.1)],[T.v (.string a0.2.2.1)]] s16.2.1
 fun (y17:ByteArray) =>
 aE [(false,Sy.str.li)]
 (bY
 [T.sl false (List.map Sy.str.enc s16.1),T.v (.string y17)])
 fun (y18:List ByteArray) =>
 bP Sy.str (List.map Sy.str.enc y18) fun (y19:List ByteArray) =>
 X15 (y19,IntKind.i64.wrap (s16.2.1+1),()))
 (R (T.sl false (List.map Sy.str.enc s16.1))))
 ([],0,()))
 (aF (decide (a0.1=7))
 (bM (List ByteArray×Int×PUnit)
 (fun (X20:List ByteArray×Int×PUnit→Prop) (s21:List ByteArray×Int×PUnit) =>
 aF (decide (s21.2.1<(↑3:Int)))
 (a7 Sy.str
 [[T.v (.string a0.2.2.2.2.2.1.1)],
 [T.v (.string a0.2.2.2.2.2.1.2.1)],
 [T.v (.string a0.2.2.2.2.2.1.2.2.1)]]
 s21.2.1 fun (y22:ByteArray) =>
 aE [(false,Sy.str.li)]
 (bY
 [T.sl false (List.map Sy.str.enc s21.1),T.v (.string y22)])
 fun (y23:List ByteArray) =>
 bP Sy.str (List.map Sy.str.enc y23) fun (y24:List ByteArray) =>
 X20 (y24,IntKind.i64.wrap (s21.2.1+1),()))
 (R (T.sl false (List.map Sy.str.enc s21.1))))
 ([],0,()))
 (aF (decide (a0.1=9))
 (aF (List.map Sy.str.enc a0.2.2.2.2.2.2.1.2.2.1).isEmpty
 (aF (List.map Sy.str.enc a0.2.2.2.2.2.2.1.2.2.2.2).isEmpty
 (bM (List ByteArray×Int×PUnit)
 (fun (X25:List ByteArray×Int×PUnit→Prop) (s26:List ByteArray×Int×PUnit) =>
 aF (decide (s26.2.1<(↑2:Int)))
 (a7 Sy.str
 [[T.v (.string a0.2.2.2.2.2.2.1.1)],
 [T.v (.string a0.2.2.2.2.2.2.1.2.1)]]
 s26.2.1 fun (y27:ByteArray) =>
 aE [(false,Sy.str.li)]
 (bY
 [T.sl false (List.map Sy.str.enc s26.1),T.v (.string y27)])
 fun (y28:List ByteArray) =>
 bP Sy.str (List.map Sy.str.enc y28) fun (y29:List ByteArray) =>
 X25 (y29,IntKind.i64.wrap (s26.2.1+1),()))
 (R (T.sl false (List.map Sy.str.enc s26.1))))
 ([],0,()))
 (aD
 (dG 1 (List.map Sy.str.enc a0.2.2.2.2.2.2.1.2.2.2.2) &&
 decide
 ((2+(List.map Sy.str.enc a0.2.2.2.2.2.2.1.2.2.2.2).length)*16 ≤
 140737488355328) &&
 decide
 (2+(List.map Sy.str.enc a0.2.2.2.2.2.2.1.2.2.2.2).length ≤
 140737488355328))
 (bM (List ByteArray×Int×PUnit)
 (fun (X30:List ByteArray×Int×PUnit→Prop) (s31:List ByteArray×Int×PUnit) =>
 aF
 (decide
 (s31.2.1 <
 (↑(GQ
 [[T.v (.string a0.2.2.2.2.2.2.1.1)].reverse,
 [T.v (.string a0.2.2.2.2.2.2.1.2.1)].reverse]
 (List.map Sy.str.enc a0.2.2.2.2.2.2.1.2.2.2.2)).length :
 Int)))
 (a7 Sy.str
 ([T.v (.string a0.2.2.2.2.2.2.1.1)] ::
 [T.v (.string a0.2.2.2.2.2.2.1.2.1)] ::
 (List.map Sy.str.enc a0.2.2.2.2.2.2.1.2.2.2.2))
 s31.2.1 fun (y32:ByteArray) =>
 fW Sy.str
 ([T.v (.string a0.2.2.2.2.2.2.1.1)] ::
 [T.v (.string a0.2.2.2.2.2.2.1.2.1)] ::
 (List.map Sy.str.enc a0.2.2.2.2.2.2.1.2.2.2.2))
 (Int.toNat s31.2.1) 0 fun (y33:ByteArray) =>
 aE [(false,Sy.str.li)]
 (bY
 [T.sl false (List.map Sy.str.enc s31.1),T.v (.string y33)])
 fun (y34:List ByteArray) =>
 bP Sy.str (List.map Sy.str.enc y34) fun (y35:List ByteArray) =>
 X30 (y35,IntKind.i64.wrap (s31.2.1+1),()))
 (R (T.sl false (List.map Sy.str.enc s31.1))))
 ([],0,()))))
 (aD
 (dG 1 (List.map Sy.str.enc a0.2.2.2.2.2.2.1.2.2.1) &&
 decide
 ((2+(List.map Sy.str.enc a0.2.2.2.2.2.2.1.2.2.1).length)*16 ≤
 140737488355328) &&
 decide
 (2+(List.map Sy.str.enc a0.2.2.2.2.2.2.1.2.2.1).length ≤
 140737488355328))
 (aD
 (dG 1 (List.map Sy.str.enc a0.2.2.2.2.2.2.1.2.2.2.2) &&
 decide
 (((GQ
 [[T.v (.string a0.2.2.2.2.2.2.1.1)].reverse,
 [T.v (.string a0.2.2.2.2.2.2.1.2.1)].reverse]
 (List.map Sy.str.enc a0.2.2.2.2.2.2.1.2.2.1)).length +
 (List.map Sy.str.enc a0.2.2.2.2.2.2.1.2.2.2.2).length) *
 16 ≤
 140737488355328) &&
 decide
 ((GQ
 [[T.v (.string a0.2.2.2.2.2.2.1.1)].reverse,
 [T.v (.string a0.2.2.2.2.2.2.1.2.1)].reverse]
 (List.map Sy.str.enc a0.2.2.2.2.2.2.1.2.2.1)).length +
 (List.map Sy.str.enc a0.2.2.2.2.2.2.1.2.2.2.2).length ≤
 140737488355328))
 (bM (List ByteArray×Int×PUnit)
 (fun (X36:List ByteArray×Int×PUnit→Prop) (s37:List ByteArray×Int×PUnit) =>
 aF
 (decide
 (s37.2.1 <
 (↑(GQ
 [[T.v (.string a0.2.2.2.2.2.2.1.1)].reverse,
 [T.v (.string a0.2.2.2.2.2.2.1.2.1)].reverse]
 (List.map Sy.str.enc a0.2.2.2.2.2.2.1.2.2.1) ++
 List.map Sy.str.enc a0.2.2.2.2.2.2.1.2.2.2.2).length :
 Int)))
 (a7 Sy.str
 ([T.v (.string a0.2.2.2.2.2.2.1.1)] ::
 [T.v (.string a0.2.2.2.2.2.2.1.2.1)] ::
 ((([]++(List.map Sy.str.enc a0.2.2.2.2.2.2.1.2.2.1)))++(List.map Sy.str.enc a0.2.2.2.2.2.2.1.2.2.2.2)))
 s37.2.1 fun (y38:ByteArray) =>
 fW Sy.str
 ([T.v (.string a0.2.2.2.2.2.2.1.1)] ::
 [T.v (.string a0.2.2.2.2.2.2.1.2.1)] ::
 ((([]++(List.map Sy.str.enc a0.2.2.2.2.2.2.1.2.2.1)))++(List.map Sy.str.enc a0.2.2.2.2.2.2.1.2.2.2.2)))
 (Int.toNat s37.2.1) 0 fun (y39:ByteArray) =>
 aE [(false,Sy.str.li)]
 (bY
 [T.sl false (List.map Sy.str.enc s37.1),T.v (.string y39)])
 fun (y40:List ByteArray) =>
 bP Sy.str (List.map Sy.str.enc y40) fun (y41:List ByteArray) =>
 X36 (y41,IntKind.i64.wrap (s37.2.1+1),()))
 (R (T.sl false (List.map Sy.str.enc s37.1))))
 ([],0,())))))
 (aF (decide (a0.1=11))
 (bM (List ByteArray×Int×PUnit)
 (fun (X42:List ByteArray×Int×PUnit→Prop) (s43:List ByteArray×Int×PUnit) =>
 aF (decide (s43.2.1<(↑2:Int)))
 (a7 Sy.str
 [[T.v (.string a0.2.2.2.2.2.2.2.2.1)],
 [T.v (.string a0.2.2.2.2.2.2.2.2.2)]]
 s43.2.1 fun (y44:ByteArray) =>
 aE [(false,Sy.str.li)]
 (bY
 [T.sl false (List.map Sy.str.enc s43.1),T.v (.string y44)])
 fun (y45:List ByteArray) =>
 bP Sy.str (List.map Sy.str.enc y45) fun (y46:List ByteArray) =>
 X42 (y46,IntKind.i64.wrap (s43.2.1+1),()))
 (R (T.sl false (List.map Sy.str.enc s43.1))))
 ([],0,()))
 (aF (decide (a0.1=12))
 (bM (List ByteArray×Int×PUnit)
 (fun (X47:List ByteArray×Int×PUnit→Prop) (s48:List ByteArray×Int×PUnit) =>
 aF (decide (s48.2.1<(↑2:Int)))
 (a7 Sy.str
 [[T.v (.string a0.2.2.2.2.2.2.2.2.1)],
 [T.v (.string a0.2.2.2.2.2.2.2.2.2)]]
 s48.2.1 fun (y49:ByteArray) =>
 aE [(false,Sy.str.li)]
 (bY
 [T.sl false (List.map Sy.str.enc s48.1),T.v (.string y49)])
 fun (y50:List ByteArray) =>
 bP Sy.str (List.map Sy.str.enc y50) fun (y51:List ByteArray) =>
 X47 (y51,IntKind.i64.wrap (s48.2.1+1),()))
 (R (T.sl false (List.map Sy.str.enc s48.1))))
 ([],0,()))
 (aF (decide (a0.1=2))
 (bM (List ByteArray×Int×PUnit)
 (fun (X52:List ByteArray×Int×PUnit→Prop) (s53:List ByteArray×Int×PUnit) =>
 aF (decide (s53.2.1<(↑1:Int)))
 (a7 Sy.str [[T.v (.string a0.2.1)]] s53.2.1
 fun (y54:ByteArray) =>
 aE [(false,Sy.str.li)]
 (bY
 [T.sl false (List.map Sy.str.enc s53.1),T.v (.string y54)])
 fun (y55:List ByteArray) =>
 bP Sy.str (List.map Sy.str.enc y55) fun (y56:List ByteArray) =>
 X52 (y56,IntKind.i64.wrap (s53.2.1+1),()))
 (R (T.sl false (List.map Sy.str.enc s53.1))))
 ([],0,()))
 (aF (decide (a0.1=4))
 (bM (List ByteArray×Int×PUnit)
 (fun (X57:List ByteArray×Int×PUnit→Prop) (s58:List ByteArray×Int×PUnit) =>
 aF (decide (s58.2.1<(↑1:Int)))
 (a7 Sy.str [[T.v (.string a0.2.1)]] s58.2.1
 fun (y59:ByteArray) =>
 aE [(false,Sy.str.li)]
 (bY
 [T.sl false (List.map Sy.str.enc s58.1),T.v (.string y59)])
 fun (y60:List ByteArray) =>
 bP Sy.str (List.map Sy.str.enc y60) fun (y61:List ByteArray) =>
 X57 (y61,IntKind.i64.wrap (s58.2.1+1),()))
 (R (T.sl false (List.map Sy.str.enc s58.1))))
 ([],0,()))
 (aF (decide (a0.1=8))
 (bM (List ByteArray×Int×PUnit)
 (fun (X62:List ByteArray×Int×PUnit→Prop) (s63:List ByteArray×Int×PUnit) =>
 aF (decide (s63.2.1<(↑1:Int)))
 (a7 Sy.str [[T.v (.string a0.2.1)]] s63.2.1
 fun (y64:ByteArray) =>
 aE [(false,Sy.str.li)]
 (bY
 [T.sl false (List.map Sy.str.enc s63.1),
 T.v (.string y64)])
 fun (y65:List ByteArray) =>
 bP Sy.str (List.map Sy.str.enc y65) fun (y66:List ByteArray) =>
 X62 (y66,IntKind.i64.wrap (s63.2.1+1),()))
 (R (T.sl false (List.map Sy.str.enc s63.1))))
 ([],0,()))
 (aF (decide (a0.1=10))
 (bM (List ByteArray×Int×PUnit)
 (fun (X67:List ByteArray×Int×PUnit→Prop) (s68:List ByteArray×Int×PUnit) =>
 aF (decide (s68.2.1<(↑1:Int)))
 (a7 Sy.str [[T.v (.string a0.2.1)]] s68.2.1
 fun (y69:ByteArray) =>
 aE [(false,Sy.str.li)]
 (bY
 [T.sl false (List.map Sy.str.enc s68.1),
 T.v (.string y69)])
 fun (y70:List ByteArray) =>
 bP Sy.str (List.map Sy.str.enc y70) fun (y71:List ByteArray) =>
 X67 (y71,IntKind.i64.wrap (s68.2.1+1),()))
 (R (T.sl false (List.map Sy.str.enc s68.1))))
 ([],0,()))
 (bM (List ByteArray×Int×PUnit)
 (fun (X72:List ByteArray×Int×PUnit→Prop) (s73:List ByteArray×Int×PUnit) =>
 aF (decide (s73.2.1<(↑0:Int)))
 (a7 Sy.str [] s73.2.1 fun (y74:ByteArray) =>
 aE [(false,Sy.str.li)]
 (bY
 [T.sl false (List.map Sy.str.enc s73.1),
 T.v (.string y74)])
 fun (y75:List ByteArray) =>
 bP Sy.str (List.map Sy.str.enc y75) fun (y76:List ByteArray) =>
 X72 (y76,IntKind.i64.wrap (s73.2.1+1),()))
 (R (T.sl false (List.map Sy.str.enc s73.1))))
 ([],0,())))))))))))))
abbrev o4:Sh:=[(true,aR)]
def r5 (l:List ByteArray):List ByteArray:=l.foldl hU []
theorem UF (l:List ByteArray) (s:ByteArray):(hU l s).length≤l.length+1:=by
 unfold hU
 split
 ·omega
 split
 ·omega
 ·rw[KG];exact Nat.le_refl _
theorem DB {L:List ByteArray} {rows:List (List T)} {n:Int} (hr:rows=List.map Sy.str.enc L) (hn:n=(L.length:Int)) (hl:L.length≤5000000) {Body:(List ByteArray×Int×PUnit→Prop)→List ByteArray×Int×PUnit→ByteArray→Prop} {R:T→Prop}
  (hB:∀ (X:List ByteArray×Int×PUnit→Prop) (s:List ByteArray×Int×PUnit) (k:Nat) (h:k<L.length),s.2.1=(k:Int)→aE [(false,Sy.str.li)] (bY [T.sl false (List.map Sy.str.enc s.1),T.v (.string L[k])]) (fun y=>bP Sy.str (List.map Sy.str.enc y) fun y4=>X (y4,IntKind.i64.wrap (s.2.1+1),()))→Body X s L[k])
  (h:R (T.sl false (List.map Sy.str.enc (r5 L)))) :
  bM (List ByteArray×Int×PUnit) (fun X s=>aF (decide (s.2.1<n)) (a7 Sy.str rows s.2.1 fun y=>Body X s y) (R (T.sl false (List.map Sy.str.enc s.1)))) ([],0,()):=by
 subst hr
 subst hn
 refine cS L.length (fun k s=>s.2.1=(k:Int)∧s.1=r5 (L.take k)∧s.1.length≤k) ⟨rfl,rfl,Nat.le_refl _⟩ ?_
 rintro X k ⟨o,i,u⟩ hk ⟨hi,ho,hol⟩ hX
 dsimp only at hi ho hol ⊢
 subst hi
 refine eP (fun hlt=>?_) fun hge=>?_
 ·have hlt:k<L.length:=by omega
  rw[cK (r:=.str) hlt]
  refine hB X _ k hlt rfl ?_
  refine aM (s:=[(false,Sy.str.li)]) (y:=hU o L[k]) ((J6 ..).trans ?_) ?_
  ·unfold mD
   dsimp only
   rw[decide_eq_true (by omega:o.length≤10000000)];rfl
  ·rw[j6 (r:=.str) rfl]
   have hw:=UF o L[k]
   refine hX _ hlt ⟨?_,?_,?_⟩
   ·show IntKind.i64.wrap ((k:Int)+1)=_
    rw[cX]<;>omega
   ·show hU o L[k]=r5 (L.take (k+1))
    rw[ho,List.take_add_one,List.getElem?_eq_getElem hlt]
    unfold r5
    rw[List.foldl_append];rfl
   ·show (hU o L[k]).length≤k+1
    omega
 ·have hkl:k=L.length:=by omega
  subst hkl
  rw[List.take_length] at ho
  rw[ho];exact h
theorem AE3 {L:List ByteArray} {rows:List (List T)} {k:Nat} {K:ByteArray→Prop} (hr:rows=List.map Sy.str.enc L) (h:k<L.length) (hk:K L[k]):fW Sy.str rows k 0 K:=by
 subst hr
 rw[YP (r:=.str) h]
 exact hk
theorem cL {L:List ByteArray} {rows:List (List T)} {n:Int} (hr:rows=List.map Sy.str.enc L) (hn:n=(L.length:Int)) (hl:L.length≤5000000) :
  bM (List ByteArray×Int×PUnit) (fun X s=>aF (decide (s.2.1<n)) (a7 Sy.str rows s.2.1 fun y=>aE [(false,Sy.str.li)] (bY [T.sl false (List.map Sy.str.enc s.1),T.v (.string y)]) fun y=>bP Sy.str (List.map Sy.str.enc y) fun y4=>X (y4,IntKind.i64.wrap (s.2.1+1),())) (T.sl false (List.map Sy.str.enc s.1)=T.sl false (List.map Sy.str.enc (r5 L)))) ([],0,()) :=
 DB (R:=fun y=>y=T.sl false (List.map Sy.str.enc (r5 L))) (Body:=fun X s y=>aE [(false,Sy.str.li)] (bY [T.sl false (List.map Sy.str.enc s.1),T.v (.string y)]) fun y=>bP Sy.str (List.map Sy.str.enc y) fun y4=>X (y4,IntKind.i64.wrap (s.2.1+1),())) hr hn hl (fun X s k h e hc=>hc) rfl
theorem yQ {L:List ByteArray} {rows:List (List T)} {n:Int} (hr:rows=List.map Sy.str.enc L) (hn:n=(L.length:Int)) (hl:L.length≤5000000) :
  bM (List ByteArray×Int×PUnit) (fun X s=>aF (decide (s.2.1<n)) (a7 Sy.str rows s.2.1 fun _=>fW Sy.str rows (Int.toNat s.2.1) 0 fun y=>aE [(false,Sy.str.li)] (bY [T.sl false (List.map Sy.str.enc s.1),T.v (.string y)]) fun y=>bP Sy.str (List.map Sy.str.enc y) fun y4=>X (y4,IntKind.i64.wrap (s.2.1+1),())) (T.sl false (List.map Sy.str.enc s.1)=T.sl false (List.map Sy.str.enc (r5 L)))) ([],0,()) :=
 DB (R:=fun y=>y=T.sl false (List.map Sy.str.enc (r5 L))) (Body:=fun X s _=>fW Sy.str rows (Int.toNat s.2.1) 0 fun y=>aE [(false,Sy.str.li)] (bY [T.sl false (List.map Sy.str.enc s.1),T.v (.string y)]) fun y=>bP Sy.str (List.map Sy.str.enc y) fun y4=>X (y4,IntKind.i64.wrap (s.2.1+1),())) hr hn hl (fun X s k h e hc=>by
  have:Int.toNat s.2.1=k:=by omega
  show fW Sy.str rows (Int.toNat s.2.1) 0 _
  rw[this]
  exact AE3 hr h hc) rfl
def iQ (x:bD):Option T:=match CM x with
 | true=>some (T.sl false (List.map Sy.str.enc (r5 (aV x))))
 | false=>none
noncomputable def gV:List T→Option T:=gS o4 iQ
theorem B5 {a0}:gV [aG true aR a0]=iQ (a0):=cG (s:=o4) rfl (a0) rfl
theorem HJ:RO Tryz.prog 49 gV iQ (fF o4) nX:=xL (a1:=(true,aR)) (sp:=iQ) (F:=nX) (Hs:=IY) (f:=49) (k:=8) DH bA bJ (aX rfl) ⟨_,_,Tryz.func49,rfl⟩ rfl fun _ _=>by kernel_rfl
theorem G0:aZ Tryz.prog 49 gV:=HJ fun x r h hb=>by
 clear hb
 obtain ⟨hp,rfl⟩:=iM h
 clear h
 unfold CM at hp
 rw[Bool.and_eq_true,decide_eq_true_eq,decide_eq_true_eq] at hp
 obtain ⟨hp1,hp2⟩:=hp
 unfold nX
 have e1:x.1=1→aV x=[x.2.2.2.1.1,x.2.2.2.1.2.2]:=fun h=>by simp only[aV,h,if_true]
 have e2:x.1=2∨x.1=4∨x.1=8∨x.1=10→aV x=[x.2.1]:=fun h=>by
  unfold aV;rw[if_neg (by omega),if_pos h]
 have e3:x.1=3∨x.1=5→aV x=[x.2.2.2.2.1.1,x.2.2.2.2.1.2.2.2.1]:=fun h=>by
  unfold aV;rw[if_neg (by omega),if_neg (by omega),if_pos h]
 have e6:x.1=6→aV x=[x.2.1,x.2.2.1]:=fun h=>by
  unfold aV;rw[if_neg (by omega),if_neg (by omega),if_neg (by omega),if_pos h]
 have e7:x.1=7→aV x=[x.2.2.2.2.2.1.1,x.2.2.2.2.2.1.2.1,x.2.2.2.2.2.1.2.2.1]:=fun h=>by
  unfold aV;rw[if_neg (by omega),if_neg (by omega),if_neg (by omega),if_neg (by omega),if_pos h]
 have e9:x.1=9→aV x=([x.2.2.2.2.2.2.1.1,x.2.2.2.2.2.2.1.2.1]++x.2.2.2.2.2.2.1.2.2.1)++x.2.2.2.2.2.2.1.2.2.2.2:=fun h=>by
  unfold aV;rw[if_neg (by omega),if_neg (by omega),if_neg (by omega),if_neg (by omega),if_neg (by omega),if_pos h]
 have e11:x.1=11∨x.1=12→aV x=[x.2.2.2.2.2.2.2.2.1,x.2.2.2.2.2.2.2.2.2]:=fun h=>by
  unfold aV;rw[if_neg (by omega),if_neg (by omega),if_neg (by omega),if_neg (by omega),if_neg (by omega),if_neg (by omega),if_pos h]
 refine eP (fun h=>by rw[e1 h];exact cL (L:=[x.2.2.2.1.1,x.2.2.2.1.2.2]) rfl rfl (by simp)) fun n1=>?_
 refine eP (fun h=>by rw[e3 (by omega)];exact cL (L:=[x.2.2.2.2.1.1,x.2.2.2.2.1.2.2.2.1]) rfl rfl (by simp)) fun n3=>?_
 refine eP (fun h=>by rw[e3 (by omega)];exact cL (L:=[x.2.2.2.2.1.1,x.2.2.2.2.1.2.2.2.1]) rfl rfl (by simp)) fun n5=>?_
 refine eP (fun h=>by rw[e6 h];exact cL (L:=[x.2.1,x.2.2.1]) rfl rfl (by simp)) fun n6=>?_
 refine eP (fun h=>by rw[e7 h];exact cL (L:=[x.2.2.2.2.2.1.1,x.2.2.2.2.2.1.2.1,x.2.2.2.2.2.1.2.2.1]) rfl rfl (by simp)) fun n7=>?_
 refine eP (fun h=>?_) fun n9=>?_
 ·rw[e9 h]
  refine ifB (fun hB=>?_) fun hB=>?_
  ·have eB:x.2.2.2.2.2.2.1.2.2.1=[]:=by simpa using hB
   refine ifB (fun hC=>?_) fun hC=>?_
   ·have eC:x.2.2.2.2.2.2.1.2.2.2.2=[]:=by simpa using hC
    rw[eB,eC]
    exact cL (L:=[x.2.2.2.2.2.2.1.1,x.2.2.2.2.2.2.1.2.1]) rfl rfl (by simp)
   ·rw[eB]
    refine ⟨?_,?_⟩
    ·rw[Bool.and_eq_true,Bool.and_eq_true]
     exact ⟨⟨oB,decide_eq_true (by simp;omega)⟩,decide_eq_true (by simp;omega)⟩
    ·exact yQ (L:=([x.2.2.2.2.2.2.1.1,x.2.2.2.2.2.2.1.2.1]++[])++x.2.2.2.2.2.2.1.2.2.2.2) rfl (by simp[GQ];try omega) (by simp;omega)
  ·refine ⟨?_,?_,?_⟩
   ·rw[Bool.and_eq_true,Bool.and_eq_true]
    exact ⟨⟨oB,decide_eq_true (by simp;omega)⟩,decide_eq_true (by simp;omega)⟩
   ·rw[Bool.and_eq_true,Bool.and_eq_true]
    exact ⟨⟨oB,decide_eq_true (by simp[GQ];omega)⟩,decide_eq_true (by simp[GQ];omega)⟩
   ·have er:∀ {a b:List T} {B C:List ByteArray} {p q:ByteArray},a=[T.v (.string p)]→b=[T.v (.string q)]→a::b::(([]++List.map Sy.str.enc B)++List.map Sy.str.enc C)=List.map Sy.str.enc (([p,q]++B)++C):=fun h1 h2=>by
     subst h1 h2
     rw[List.map_append,List.map_append];rfl
    exact yQ (L:=([x.2.2.2.2.2.2.1.1,x.2.2.2.2.2.2.1.2.1]++x.2.2.2.2.2.2.1.2.2.1)++x.2.2.2.2.2.2.1.2.2.2.2) (er rfl rfl) (by simp[GQ];try omega) (by simp;omega)
 refine eP (fun h=>by rw[e11 (by omega)];exact cL (L:=[x.2.2.2.2.2.2.2.2.1,x.2.2.2.2.2.2.2.2.2]) rfl rfl (by simp)) fun n11=>?_
 refine eP (fun h=>by rw[e11 (by omega)];exact cL (L:=[x.2.2.2.2.2.2.2.2.1,x.2.2.2.2.2.2.2.2.2]) rfl rfl (by simp)) fun n12=>?_
 refine eP (fun h=>by rw[e2 (by omega)];exact cL (L:=[x.2.1]) rfl rfl (by simp)) fun n2=>?_
 refine eP (fun h=>by rw[e2 (by omega)];exact cL (L:=[x.2.1]) rfl rfl (by simp)) fun n4=>?_
 refine eP (fun h=>by rw[e2 (by omega)];exact cL (L:=[x.2.1]) rfl rfl (by simp)) fun n8=>?_
 refine eP (fun h=>by rw[e2 (by omega)];exact cL (L:=[x.2.1]) rfl rfl (by simp)) fun n10=>?_
 have e:aV x=[]:=by
  unfold aV
  rw[if_neg (by omega),if_neg (by omega),if_neg (by omega),if_neg (by omega),if_neg (by omega),if_neg (by omega),if_neg (by omega)]
 rw[e]
 exact cL (L:=[]) rfl rfl (by simp)
theorem CB:∀ {l:List ByteArray} {s a:ByteArray},a∈qB l s↔a∈l∨a=s
 | [],s,a=>by simp[qB]
 | b::l,s,a=>by
  cases h:WM b s with
  | true=>rw[G8 h];simp only[List.mem_cons];constructor<;>rintro (h|h|h)<;>simp[h]
  | false =>
   rw[G9 h];simp only[List.mem_cons,CB]
   constructor
   ·rintro (h|h|h)<;>simp[h]
   ·rintro ((h|h)|h)<;>simp[h]
theorem WN {a b:ByteArray} (h:WM a b=true):toL b<toL a:=by
 unfold WM at h
 rw[Bool.not_eq_true',Bool.or_eq_false_iff,decide_eq_false_iff_not] at h
 have h1:¬ toL a<toL b:=fun h'=>by rw[(H9 a b).2 h'] at h;cases h.1
 refine Decidable.byContradiction fun hn=>h.2 ?_
 have:=List.le_antisymm (List.not_lt.1 h1) (List.not_lt.1 hn)
 rw[←gI a,←gI b,this]
theorem AEG {a b:ByteArray} (h:WM a b=false) (hne:a≠b):toL a<toL b:=by
 unfold WM at h
 rw[Bool.not_eq_false',Bool.or_eq_true,decide_eq_true_eq] at h
 exact (H9 a b).1 (h.resolve_right hne)
def Q3 (l:List ByteArray):Prop:=l.Pairwise fun a b=>toL a<toL b
theorem KF:∀ {l:List ByteArray} {s:ByteArray},Q3 l→s∉l→Q3 (qB l s)
 | [],s,_,_=>List.pairwise_singleton _ _
 | b::l,s,h,hn=>by
  have hb:=List.pairwise_cons.1 h
  have hn':s≠b∧s∉l:=by simpa using hn
  cases hg:WM b s with
  | true =>
   rw[G8 hg]
   refine List.pairwise_cons.2 ⟨fun a ha=>?_,h⟩
   rcases List.mem_cons.1 ha with e|e
   ·subst e;exact WN hg
   ·exact List.lt_trans (WN hg) (hb.1 a e)
  | false =>
   rw[G9 hg]
   refine List.pairwise_cons.2 ⟨fun a ha=>?_,KF hb.2 hn'.2⟩
   rcases CB.1 ha with e|e
   ·exact hb.1 a e
   ·subst e;exact AEG hg (fun e=>hn'.1 e.symm)
theorem B9 {l:List ByteArray} {a:ByteArray}:DR l a=true↔a∈l:=by
 unfold DR
 simp
theorem UE {l:List ByteArray} {s:ByteArray} (h:Q3 l):Q3 (hU l s):=by
 unfold hU
 split
 ·exact h
 split
 ·exact h
 ·rename_i h1 h2
  exact KF h fun hm=>h2 (B9.2 hm)
theorem UG {l:List ByteArray} {s a:ByteArray}:a∈hU l s↔a∈l∨(a=s∧s≠⟨#[]⟩):=by
 unfold hU
 split
 ·rename_i h;simp[h]
 split
 ·rename_i h1 h2
  have:=B9.1 h2
  constructor
  ·exact .inl
  ·rintro (h|⟨h,_⟩)
   ·exact h
   ·rw[h];exact this
 ·rename_i h1 h2
  rw[CB];simp[h1]
theorem BV:∀ (m l:List ByteArray),Q3 l→Q3 (m.foldl hU l)∧∀ a,a∈m.foldl hU l↔a∈l∨(a∈m∧a≠⟨#[]⟩)
 | [],l,h=>⟨h,fun a=>by simp⟩
 | s::m,l,h=>by
  obtain ⟨h1,h2⟩:=BV m (hU l s) (UE h)
  refine ⟨h1,fun a=>?_⟩
  rw[List.foldl_cons,h2,UG,List.mem_cons]
  constructor
  ·rintro ((h|⟨h,h'⟩)|⟨h,h'⟩)
   ·exact .inl h
   ·exact .inr ⟨.inl h,by rw[h];exact h'⟩
   ·exact .inr ⟨.inr h,h'⟩
  ·rintro (h|⟨h|h,h'⟩)
   ·exact .inl (.inl h)
   ·exact .inl (.inr ⟨h,by rw[←h];exact h'⟩)
   ·exact .inr ⟨h,h'⟩
theorem OU (l:List ByteArray):r5 l=cT l:=by
 obtain ⟨h1,h2⟩:=BV l [] List.Pairwise.nil
 refine KR (AY (List.pairwise_map.2 h1) (XQ l) fun a=>?_)
 rw[TD]
 constructor
 ·intro h
  obtain ⟨b,hb,rfl⟩:=List.mem_map.1 h
  rcases (h2 b).1 hb with h|⟨h,h'⟩
  ·cases h
  ·exact ⟨List.mem_map.2 ⟨b,h,rfl⟩,fun e=>h' (by rw[←gI b,e];rfl)⟩
 ·rintro ⟨h,hne⟩
  obtain ⟨b,hb,rfl⟩:=List.mem_map.1 h
  exact List.mem_map.2 ⟨b,(h2 b).2 (.inr ⟨hb,fun e=>hne (by rw[e];rfl)⟩),rfl⟩
end Go.Pv
namespace Go.Pv
open Go Go.Proofs
theorem ZK {a b:ByteArray}:kO a b=true↔NZ a b:=H9 a b
theorem QZ {l:List ByteArray} (h:l.Nodup):(fZ cO l).Pairwise NZ:=by
 have h1:((fZ cO l).map toL).Pairwise (· ≤ ·):=by rw[toL_viaL];exact xX _
 have h2:((fZ cO l).map toL).Nodup:=by
  rw[toL_viaL]
  unfold cO
  have hn:(l.map toL).Nodup:=by
   unfold List.Nodup
   rw[List.pairwise_map]
   exact h.imp fun {a b} hne e=>hne (by rw[←gI a,e,gI])
  exact (List.mergeSort_perm _ _).nodup_iff.2 hn
 have h3:((fZ cO l).map toL).Pairwise (· < ·):=(h1.and h2).imp fun {a b} h=>Classical.byContradiction fun hn=>h.2 (List.le_antisymm h.1 (List.not_lt.1 hn))
 show (fZ cO l).Pairwise fun a b=>toL a<toL b
 exact List.pairwise_map.1 h3
theorem LL {l:List ByteArray} {s:ByteArray}:s∈fZ cO l↔s∈l:=by
 rw[←lC,toL_viaL,uF,lC]
def jP (l:List bD):List ByteArray:=GM (l.flatMap fun e=>cT (aV e))
theorem IB (l:List bD):(jP l).Pairwise NZ:=AAU _
theorem mF {l:List bD} {s:ByteArray}:s∈jP l↔∃ e∈l,s∈cT (aV e):=by
 unfold jP;rw[JA,List.mem_flatMap]
theorem ZN {l:List bD} {ks:List ByteArray} (hn:ks.Nodup) (hm:∀ s,s∈ks↔∃ e∈l,s∈cT (aV e)):fZ cO ks=jP l :=
 uO (QZ hn) (IB l) fun s=>by rw[LL,hm,mF]
def p8 (a b:List bD):List ByteArray:=(jP a).filter fun s=>DR (jP b) s
theorem zH (a b:List bD):(p8 a b).Pairwise NZ:=(IB a).filter _
theorem uS {a b:List bD} {s:ByteArray}:s∈p8 a b↔s∈jP a∧s∈jP b:=by
 unfold p8;rw[List.mem_filter,B9]
theorem RY (a b:List bD):p8 a b=p8 b a:=uO (zH a b) (zH b a) fun s=>by rw[uS,uS,And.comm]
theorem VR {a b:List bD} {ks:List ByteArray} (hn:ks.Nodup) (hm:∀ s,s∈ks↔s∈jP a∧s∈jP b):fZ cO ks=p8 a b :=
 uO (QZ hn) (zH a b) fun s=>by rw[LL,hm,uS]
def bV:List ByteArray→ByteArray→List ByteArray
 | [],s=>[s]
 | a::l,s=>if kO a s=true then a::bV l s else if a=s then a::l else s::a::l
theorem DD:∀ (l:List ByteArray) (s:ByteArray),(bV l s).length≤l.length+1
 | [],_=>by simp[bV]
 | a::l,s=>by
  unfold bV
  split
  ·have:=DD l s;simp;omega
  split
  ·simp
  ·simp
theorem uJ:∀ {l:List ByteArray} {s x:ByteArray},x∈bV l s↔x∈l∨x=s
 | [],s,x=>by simp[bV]
 | a::l,s,x=>by
  unfold bV
  split
  ·rw[List.mem_cons,uJ,List.mem_cons,or_assoc]
  split
  ·rename_i _ h
   rw[List.mem_cons]
   constructor
   ·exact .inl
   ·rintro (h'|h')
    ·exact h'
    ·exact .inl (h'.trans h.symm)
  ·rw[List.mem_cons,Or.comm]
theorem DC:∀ {l:List ByteArray} {s:ByteArray},l.Pairwise NZ→(bV l s).Pairwise NZ
 | [],s,_=>List.pairwise_singleton _ _
 | a::l,s,h=>by
  have ha:=List.pairwise_cons.1 h
  unfold bV
  split
  ·rename_i h1
   refine List.pairwise_cons.2 ⟨fun x hx=>?_,DC ha.2⟩
   rcases uJ.1 hx with h2|h2
   ·exact ha.1 x h2
   ·rw[h2];exact ZK.1 h1
  split
  ·exact h
  ·rename_i h1 h2
   have hlt:NZ s a:=Classical.byContradiction fun hn=>h2 (AG0.tot (fun h'=>h1 (ZK.2 h')) hn)
   refine List.pairwise_cons.2 ⟨fun x hx=>?_,h⟩
   rcases List.mem_cons.1 hx with rfl|hx
   ·exact hlt
   ·exact AG0.tr hlt (ha.1 x hx)
theorem yS:∀ (m l:List ByteArray),l.Pairwise NZ→(m.foldl bV l).Pairwise NZ∧∀ x,x∈m.foldl bV l↔x∈l∨x∈m
 | [],l,h=>⟨h,fun x=>by simp⟩
 | s::m,l,h=>by
  obtain ⟨h1,h2⟩:=yS m (bV l s) (DC h)
  refine ⟨h1,fun x=>?_⟩
  rw[List.foldl_cons,h2,uJ,List.mem_cons,or_assoc]
def nK (o:List ByteArray) (l:List bD):List ByteArray:=l.foldl (fun o e=>(cT (aV e)).foldl bV o) o
theorem BU:∀ (l:List bD) (o:List ByteArray),o.Pairwise NZ→(nK o l).Pairwise NZ∧∀ x,x∈nK o l↔x∈o∨∃ e∈l,x∈cT (aV e)
 | [],o,h=>⟨h,fun x=>by simp[nK]⟩
 | e::l,o,h=>by
  obtain ⟨g1,g2⟩:=yS (cT (aV e)) o h
  obtain ⟨h1,h2⟩:=BU l ((cT (aV e)).foldl bV o) g1
  refine ⟨h1,fun x=>?_⟩
  show x∈nK ((cT (aV e)).foldl bV o) l↔_
  rw[h2,g2,or_assoc]
  simp
theorem SM (l:List bD):nK [] l=jP l:=by
 obtain ⟨h1,h2⟩:=BU l [] List.Pairwise.nil
 exact uO h1 (IB l) fun s=>by rw[h2,mF];simp
end Go.Pv
namespace Go.Pv
open Go Go.Proofs
end Go.Pv
namespace Go.Pv
open Go Go.Proofs
noncomputable def US:Env:=Env.of []
def U6:FuncId→Hint:=fM 50 [(3,.inv [.own 5 1 .str,.val 6 false (.int .i64)])] (fun _=>bW)
theorem L6:aH Tryz.prog US:=.nil _
def AM (a0:List ByteArray) (a1:ByteArray) (R:T→Prop):Prop :=
 bM (List ByteArray×Int×PUnit)
 (fun (X0:List ByteArray×Int×PUnit→Prop) (s1:List ByteArray×Int×PUnit) =>
 aF (decide (s1.2.1<(↑(List.map Sy.str.enc a0).length:Int)))
 (a7 Sy.str (List.map Sy.str.enc a0) s1.2.1 fun (y2:ByteArray) =>
 aF (kO y2 a1)
 (a7 Sy.str (List.map Sy.str.enc a0) s1.2.1 fun (y3:ByteArray) =>
 aD
 (decide (((List.map Sy.str.enc s1.1).length+1)*16≤140737488355328) &&
 decide ((List.map Sy.str.enc s1.1).length+1≤140737488355328))
 (bP Sy.str (List.map Sy.str.enc s1.1++[[T.v (.string y3)]])
 fun (y4:List ByteArray)=>X0 (y4,IntKind.i64.wrap (s1.2.1+1),())))
 (aD
 (decide (((List.map Sy.str.enc s1.1).length+1)*16≤140737488355328) &&
 decide ((List.map Sy.str.enc s1.1).length+1≤140737488355328))
 (aF (decide (s1.2.1<(↑(List.map Sy.str.enc a0).length:Int)))
 (a7 Sy.str (List.map Sy.str.enc a0) s1.2.1 fun (y5:ByteArray) =>
 aF (decide (y5=a1))
 (aD
 (jM 1 (List.map Sy.str.enc a0) &&
 decide ((List.map Sy.str.enc a0).length≤(List.map Sy.str.enc a0).length) &&
 (decide (0≤IntKind.i64.wrap (s1.2.1+1)) &&
 decide ((IntKind.i64.wrap (s1.2.1+1)).toNat≤(List.map Sy.str.enc a0).length)))
 (aD
 (dG 1
 (List.drop (IntKind.i64.wrap (s1.2.1+1)).toNat
 (List.take (List.map Sy.str.enc a0).length (List.map Sy.str.enc a0))) &&
 decide
 (((List.map Sy.str.enc s1.1 ++
 [[T.v (.string a1)].reverse].reverse).length +
 (List.drop (IntKind.i64.wrap (s1.2.1+1)).toNat
 (List.take (List.map Sy.str.enc a0).length
 (List.map Sy.str.enc a0))).length) *
 16 ≤
 140737488355328) &&
 decide
 ((List.map Sy.str.enc s1.1 ++
 [[T.v (.string a1)].reverse].reverse).length +
 (List.drop (IntKind.i64.wrap (s1.2.1+1)).toNat
 (List.take (List.map Sy.str.enc a0).length
 (List.map Sy.str.enc a0))).length ≤
 140737488355328))
 (R
 (T.sl false
 (List.map Sy.str.enc s1.1++[[T.v (.string a1)]] ++
 List.drop (IntKind.i64.wrap (s1.2.1+1)).toNat
 (List.take (List.map Sy.str.enc a0).length (List.map Sy.str.enc a0)))))))
 (aD
 (jM 1 (List.map Sy.str.enc a0) &&
 decide ((List.map Sy.str.enc a0).length≤(List.map Sy.str.enc a0).length) &&
 (decide (0≤s1.2.1) &&
 decide (Int.toNat s1.2.1≤(List.map Sy.str.enc a0).length)))
 (aD
 (dG 1
 (List.drop (Int.toNat s1.2.1)
 (List.take (List.map Sy.str.enc a0).length (List.map Sy.str.enc a0))) &&
 decide
 (((List.map Sy.str.enc s1.1 ++
 [[T.v (.string a1)].reverse].reverse).length +
 (List.drop (Int.toNat s1.2.1)
 (List.take (List.map Sy.str.enc a0).length
 (List.map Sy.str.enc a0))).length) *
 16 ≤
 140737488355328) &&
 decide
 ((List.map Sy.str.enc s1.1 ++
 [[T.v (.string a1)].reverse].reverse).length +
 (List.drop (Int.toNat s1.2.1)
 (List.take (List.map Sy.str.enc a0).length
 (List.map Sy.str.enc a0))).length ≤
 140737488355328))
 (R
 (T.sl false
 (List.map Sy.str.enc s1.1++[[T.v (.string a1)]] ++
 List.drop (Int.toNat s1.2.1)
 (List.take (List.map Sy.str.enc a0).length (List.map Sy.str.enc a0))))))))
 (aD
 (jM 1 (List.map Sy.str.enc a0) &&
 decide ((List.map Sy.str.enc a0).length≤(List.map Sy.str.enc a0).length) &&
 (decide (0≤s1.2.1)&&decide (Int.toNat s1.2.1≤(List.map Sy.str.enc a0).length)))
 (aD
 (dG 1
 (List.drop (Int.toNat s1.2.1)
 (List.take (List.map Sy.str.enc a0).length (List.map Sy.str.enc a0))) &&
 decide
 (((List.map Sy.str.enc s1.1 ++
 [[T.v (.string a1)].reverse].reverse).length +
 (List.drop (Int.toNat s1.2.1)
 (List.take (List.map Sy.str.enc a0).length
 (List.map Sy.str.enc a0))).length) *
 16 ≤
 140737488355328) &&
 decide
 ((List.map Sy.str.enc s1.1++[[T.v (.string a1)].reverse].reverse).length +
 (List.drop (Int.toNat s1.2.1)
 (List.take (List.map Sy.str.enc a0).length (List.map Sy.str.enc a0))).length ≤
 140737488355328))
 (R
 (T.sl false
 (List.map Sy.str.enc s1.1++[[T.v (.string a1)]] ++
 List.drop (Int.toNat s1.2.1)
 (List.take (List.map Sy.str.enc a0).length (List.map Sy.str.enc a0))))))))))
 (aD
 (decide (((List.map Sy.str.enc s1.1).length+1)*16≤140737488355328) &&
 decide ((List.map Sy.str.enc s1.1).length+1≤140737488355328))
 (aF (decide (s1.2.1<(↑(List.map Sy.str.enc a0).length:Int)))
 (a7 Sy.str (List.map Sy.str.enc a0) s1.2.1 fun (y6:ByteArray) =>
 aF (decide (y6=a1))
 (aD
 (jM 1 (List.map Sy.str.enc a0) &&
 decide ((List.map Sy.str.enc a0).length≤(List.map Sy.str.enc a0).length) &&
 (decide (0≤IntKind.i64.wrap (s1.2.1+1)) &&
 decide ((IntKind.i64.wrap (s1.2.1+1)).toNat≤(List.map Sy.str.enc a0).length)))
 (aD
 (dG 1
 (List.drop (IntKind.i64.wrap (s1.2.1+1)).toNat
 (List.take (List.map Sy.str.enc a0).length (List.map Sy.str.enc a0))) &&
 decide
 (((List.map Sy.str.enc s1.1 ++
 [[T.v (.string a1)].reverse].reverse).length +
 (List.drop (IntKind.i64.wrap (s1.2.1+1)).toNat
 (List.take (List.map Sy.str.enc a0).length
 (List.map Sy.str.enc a0))).length) *
 16 ≤
 140737488355328) &&
 decide
 ((List.map Sy.str.enc s1.1++[[T.v (.string a1)].reverse].reverse).length +
 (List.drop (IntKind.i64.wrap (s1.2.1+1)).toNat
 (List.take (List.map Sy.str.enc a0).length (List.map Sy.str.enc a0))).length ≤
 140737488355328))
 (R
 (T.sl false
 (List.map Sy.str.enc s1.1++[[T.v (.string a1)]] ++
 List.drop (IntKind.i64.wrap (s1.2.1+1)).toNat
 (List.take (List.map Sy.str.enc a0).length (List.map Sy.str.enc a0)))))))
 (aD
 (jM 1 (List.map Sy.str.enc a0) &&
 decide ((List.map Sy.str.enc a0).length≤(List.map Sy.str.enc a0).length) &&
 (decide (0≤s1.2.1)&&decide (Int.toNat s1.2.1≤(List.map Sy.str.enc a0).length)))
 (aD
 (dG 1
 (List.drop (Int.toNat s1.2.1)
 (List.take (List.map Sy.str.enc a0).length (List.map Sy.str.enc a0))) &&
 decide
 (((List.map Sy.str.enc s1.1 ++
 [[T.v (.string a1)].reverse].reverse).length +
 (List.drop (Int.toNat s1.2.1)
 (List.take (List.map Sy.str.enc a0).length
 (List.map Sy.str.enc a0))).length) *
 16 ≤
 140737488355328) &&
 decide
 ((List.map Sy.str.enc s1.1++[[T.v (.string a1)].reverse].reverse).length +
 (List.drop (Int.toNat s1.2.1)
 (List.take (List.map Sy.str.enc a0).length (List.map Sy.str.enc a0))).length ≤
 140737488355328))
 (R
 (T.sl false
 (List.map Sy.str.enc s1.1++[[T.v (.string a1)]] ++
 List.drop (Int.toNat s1.2.1)
 (List.take (List.map Sy.str.enc a0).length (List.map Sy.str.enc a0))))))))
 (aD
 (jM 1 (List.map Sy.str.enc a0) &&
 decide ((List.map Sy.str.enc a0).length≤(List.map Sy.str.enc a0).length) &&
 (decide (0≤s1.2.1)&&decide (Int.toNat s1.2.1≤(List.map Sy.str.enc a0).length)))
 (aD
 (dG 1
 (List.drop (Int.toNat s1.2.1)
 (List.take (List.map Sy.str.enc a0).length (List.map Sy.str.enc a0))) &&
 decide
 (((List.map Sy.str.enc s1.1++[[T.v (.string a1)].reverse].reverse).length +
 (List.drop (Int.toNat s1.2.1)
 (List.take (List.map Sy.str.enc a0).length
 (List.map Sy.str.enc a0))).length) *
 16 ≤
 140737488355328) &&
 decide
 ((List.map Sy.str.enc s1.1++[[T.v (.string a1)].reverse].reverse).length +
 (List.drop (Int.toNat s1.2.1)
 (List.take (List.map Sy.str.enc a0).length (List.map Sy.str.enc a0))).length ≤
 140737488355328))
 (R
 (T.sl false
 (List.map Sy.str.enc s1.1++[[T.v (.string a1)]] ++
 List.drop (Int.toNat s1.2.1)
 (List.take (List.map Sy.str.enc a0).length (List.map Sy.str.enc a0))))))))))
 ([],0,())
abbrev C0:Sh:=[(false,Sy.str.li),(false,Sy.str)]
def mE (x:List ByteArray×ByteArray):Option T:=match decide (x.1.length≤1000000000) with
 | true=>some (T.sl false (List.map Sy.str.enc (bV x.1 x.2)))
 | false=>none
noncomputable def lW:List T→Option T:=gS C0 mE
theorem J7 {a0 a1}:lW [T.sl false (List.map Sy.str.enc a0),T.v (.string a1)]=mE (a0,a1):=cG (s:=C0) rfl (a0,a1) rfl
theorem TO:Of2 Tryz.prog 50 lW mE (fF C0) AM:=HI (a1:=(false,Sy.str.li)) (a2:=(false,Sy.str)) (sp:=mE) (F:=AM) (Hs:=U6) (f:=50) (k:=8) L6 bA bJ (aX rfl) ⟨_,_,Tryz.func50,rfl⟩ rfl fun _ _ _=>by kernel_rfl
abbrev AAZ (rows:List (List T)) (o:List (List T)) (a:ByteArray) (i:Int) (R:T→Prop):Prop :=
 aD (jM 1 rows&&decide (rows.length≤rows.length)&&(decide (0≤i)&&decide (Int.toNat i≤rows.length)))
  (aD (dG 1 (List.drop (Int.toNat i) (List.take rows.length rows))&&decide (((o++[[T.v (.string a)].reverse].reverse).length+(List.drop (Int.toNat i) (List.take rows.length rows)).length)*16≤140737488355328)&&decide ((o++[[T.v (.string a)].reverse].reverse).length+(List.drop (Int.toNat i) (List.take rows.length rows)).length≤140737488355328))
   (R (T.sl false (o++[[T.v (.string a)]]++List.drop (Int.toNat i) (List.take rows.length rows)))))
theorem VT {l out:List ByteArray} {a:ByteArray} {j:Nat} (hj:j≤l.length) (hl:l.length≤1000000000) (ho:out.length≤1000000000) {i:Int} (hi:i=(j:Int)) {R:T→Prop} (hR:R (T.sl false (List.map Sy.str.enc (out++a::l.drop j)))) :
  AAZ (List.map Sy.str.enc l) (List.map Sy.str.enc out) a i R:=by
 subst hi
 have hd:List.drop (Int.toNat (j:Int)) (List.take (List.map Sy.str.enc l).length (List.map Sy.str.enc l))=List.map Sy.str.enc (l.drop j):=by
  rw[List.take_length,Int.toNat_natCast,List.map_drop]
 have hh:jM 1 (List.map Sy.str.enc l)=true:=by cases l<;>rfl
 refine ⟨?_,?_,?_⟩
 ·rw[hh,Int.toNat_natCast,List.length_map]
  simp only[Bool.and_eq_true,decide_eq_true_eq,Bool.true_and]
  exact ⟨Nat.le_refl _,by omega,hj⟩
 ·rw[hd,oB]
  simp only[Bool.and_eq_true,decide_eq_true_eq,Bool.true_and,List.length_append,List.length_map,List.length_drop,List.reverse_cons,List.reverse_nil,List.nil_append,List.length_cons,List.length_nil]
  omega
 ·rw[hd]
  rw[List.map_append,List.map_cons] at hR
  rw[List.append_assoc]
  exact hR
abbrev AGJ (rows:List (List T)) (o:List (List T)) (a:ByteArray) (i:Int) (R:T→Prop):Prop :=
 aD (decide ((o.length+1)*16≤140737488355328)&&decide (o.length+1≤140737488355328)) (aF (decide (i<(↑rows.length:Int)))
  (a7 Sy.str rows i fun y=>aF (decide (y=a)) (AAZ rows o a (IntKind.i64.wrap (i+1)) R) (AAZ rows o a i R)) (AAZ rows o a i R))
theorem AGK {l:List ByteArray} {a:ByteArray} {k:Nat} (hk:k≤l.length) (hl:l.length≤1000000000) (hw:bV l a=l.take k++bV (l.drop k) a) (hs:∀ h:k<l.length,kO l[k] a=false) {R:T→Prop} (hR:R (T.sl false (List.map Sy.str.enc (bV l a)))) :
  AGJ (List.map Sy.str.enc l) (List.map Sy.str.enc (l.take k)) a (k:Int) R:=by
 have ho:(l.take k).length≤1000000000:=by rw[List.length_take];omega
 rw[hw] at hR
 refine ⟨by rw[List.length_map,Bool.and_eq_true];exact ⟨decide_eq_true (by omega),decide_eq_true (by omega)⟩,?_⟩
 rw[List.length_map]
 refine eP (fun hlt=>?_) fun hge=>?_
 ·have hlt:k<l.length:=by omega
  have hd:l.drop k=l[k]::l.drop (k+1):=List.drop_eq_getElem_cons hlt
  have hn:=hs hlt
  rw[cK (r:=.str) hlt]
  rw[hd,bV,if_neg (by rw[hn];exact Bool.false_ne_true)] at hR
  refine eP (fun he=>?_) fun he=>?_
  ·rw[if_pos he] at hR
   refine VT (j:=k+1) (by omega) hl ho (cX _ (by omega) (by omega)) ?_
   rw[he] at hR;exact hR
  ·rw[if_neg he,←hd] at hR
   exact VT (j:=k) (by omega) hl ho rfl hR
 ·have hd:l.drop k=[]:=List.drop_eq_nil_of_le (by omega)
  refine VT (j:=k) hk hl ho rfl ?_
  rw[hd] at hR ⊢;exact hR
theorem SL:aZ Tryz.prog 50 lW:=TO fun l a r h hb=>by
 clear hb
 obtain ⟨hl,rfl⟩:=iM h
 clear h
 have hl:l.length≤1000000000:=of_decide_eq_true hl
 unfold AM
 refine cS l.length (fun k s=>s=(l.take k,(k:Int),())∧bV l a=l.take k++bV (l.drop k) a) ⟨rfl,rfl⟩ ?_
 rintro X k s hk ⟨rfl,hw⟩ hX
 dsimp only
 have fin:(∀ h:k<l.length,kO l[k] a=false)→AGJ (List.map Sy.str.enc l) (List.map Sy.str.enc (l.take k)) a (k:Int) (fun y=>y=T.sl false (List.map Sy.str.enc (bV l a))):=fun h=>AGK hk hl hw h rfl
 by_cases hlt:k<l.length
 ·refine oT (by simp[hlt]) ?_
  rw[cK (r:=.str) hlt]
  refine ifB (fun hs=>?_) fun hs=>?_
  ·rw[cK (r:=.str) hlt,GJ (by rw[List.length_take];omega),uV]
   refine hX _ hlt ⟨?_,?_⟩
   ·rw[List.take_succ_eq_append_getElem hlt,show IntKind.i64.wrap ((k:Int)+1)=((k+1:Nat):Int) from cX _ (by omega) (by omega)]
   ·rw[hw,List.take_succ_eq_append_getElem hlt,List.append_assoc,List.drop_eq_getElem_cons hlt,bV,if_pos hs];rfl
  ·exact fin fun _=>hs
 ·refine vJ (by simp[hlt]) ?_
  exact fin fun h=>absurd h hlt
noncomputable def AAA:Env:=Env.of [(49,.pure gV),(50,.pure lW)]
def AAL:FuncId→Hint:=fM 19 [(3,.inv [.val 3 false (.li .str),.val 4 false (.int .i64)]),(7,.inv [.val 3 false (.li .str),.val 6 false (.int .i64)])] (fun _=>bW)
theorem RI:aH Tryz.prog AAA:=.cons G0 (.cons SL (.nil _))
def GA (a0:bB) (R:T→Prop):Prop :=
 bM (List ByteArray×Int×PUnit)
 (fun (X0:List ByteArray×Int×PUnit→Prop) (s1:List ByteArray×Int×PUnit) =>
 aF (decide (s1.2.1<(↑(List.map aR.enc a0.2).length:Int)))
 (a7 aR (List.map aR.enc a0.2) s1.2.1 fun (y2:bD) =>
 aE [(false,Sy.str.li)] (gV [aG true aR y2])
 fun (y3:List ByteArray) =>
 bP Sy.str (List.map Sy.str.enc s1.1) fun (y4:List ByteArray) =>
 bM (List ByteArray×Int×PUnit)
 (fun (X5:List ByteArray×Int×PUnit→Prop) (s6:List ByteArray×Int×PUnit) =>
 aF (decide (s6.2.1<(↑(List.map Sy.str.enc y3).length:Int)))
 (a7 Sy.str (List.map Sy.str.enc y3) s6.2.1 fun (y7:ByteArray) =>
 aE [(false,Sy.str.li)]
 (lW
 [T.sl false (List.map Sy.str.enc s6.1),T.v (.string y7)])
 fun (y8:List ByteArray) =>
 bP Sy.str (List.map Sy.str.enc y8) fun (y9:List ByteArray) =>
 X5 (y9,IntKind.i64.wrap (s6.2.1+1),()))
 (bP Sy.str (List.map Sy.str.enc s6.1) fun (y10:List ByteArray) =>
 X0 (y10,IntKind.i64.wrap (s1.2.1+1),())))
 (y4,0,()))
 (R (T.sl false (List.map Sy.str.enc s1.1))))
 ([],0,())
abbrev H7:Sh:=[(true,aU)]
def tX (o:bB):Bool:=decide (o.2.length≤100)&&o.2.all CM
theorem vR {o:bB} (h:tX o=true):o.2.length≤100∧∀ e∈o.2,CM e=true:=by
 unfold tX at h
 rw[Bool.and_eq_true,decide_eq_true_eq] at h
 exact ⟨h.1,List.all_eq_true.1 h.2⟩
theorem pD (q:List (List UInt8)→List (List UInt8)) (l:List ByteArray) (h:∀ m,(q m).length≤m.length):(fZ q l).length≤l.length:=by
 unfold fZ
 rw[List.length_map]
 exact Nat.le_trans (h _) (by simp)
theorem l5 (l:List ByteArray):(cT l).length≤l.length:=by
 unfold cT
 refine Nat.le_trans (pD _ _ fun m=>List.length_filter_le _ _) (Nat.le_trans (pD _ _ sL) (pD _ _ fun m=>by unfold cO;simp))
theorem kH {x:bD} (h:CM x=true):(aV x).length≤2000010:=by
 unfold CM at h
 rw[Bool.and_eq_true,decide_eq_true_eq,decide_eq_true_eq] at h
 unfold aV
 repeat' split
 all_goals simp only[List.length_cons,List.length_nil,List.length_append]
 all_goals omega
theorem sQ:∀ (m l:List ByteArray),(m.foldl bV l).length≤l.length+m.length
 | [],l=>by simp
 | s::m,l=>by
  have h1:=sQ m (bV l s)
  have h2:=DD l s
  rw[List.foldl_cons,List.length_cons]
  omega
def kQ (o:bB):Option T:=match tX o with
 | true=>some (T.sl false (List.map Sy.str.enc (jP o.2)))
 | false=>none
noncomputable def lA:List T→Option T:=gS H7 kQ
theorem sX {a0}:lA [aG true aU a0]=kQ (a0):=cG (s:=H7) rfl (a0) rfl
theorem YF:RO Tryz.prog 19 lA kQ (fF H7) GA:=xL (a1:=(true,aU)) (sp:=kQ) (F:=GA) (Hs:=AAL) (f:=19) (k:=8) RI bA bJ (aX rfl) ⟨_,_,Tryz.func19,rfl⟩ rfl fun _ _=>by kernel_rfl
theorem OT {M:Nat} {l:List bD} (hM:M≤3000000) (hl:l.length≤100) (hN:∀ e∈l,(cT (aV e)).length≤M) (hok:∀ e∈l,CM e=true) {R:T→Prop} (hR:R (T.sl false (List.map Sy.str.enc (nK [] l)))) :
  bM (List ByteArray×Int×PUnit) (fun X0 s1=>aF (decide (s1.2.1<(↑(List.map aR.enc l).length:Int))) (a7 aR (List.map aR.enc l) s1.2.1 fun y2=>aE [(false,Sy.str.li)] (gV [aG true aR y2]) fun (y3:List ByteArray)=>bP Sy.str (List.map Sy.str.enc s1.1) fun y4 =>
   bM (List ByteArray×Int×PUnit) (fun X5 s6=>aF (decide (s6.2.1<(↑(List.map Sy.str.enc y3).length:Int))) (a7 Sy.str (List.map Sy.str.enc y3) s6.2.1 fun y7=>aE [(false,Sy.str.li)] (lW [T.sl false (List.map Sy.str.enc s6.1),T.v (.string y7)]) fun (y8:List ByteArray)=>bP Sy.str (List.map Sy.str.enc y8) fun y9=>X5 (y9,IntKind.i64.wrap (s6.2.1+1),()))
    (bP Sy.str (List.map Sy.str.enc s6.1) fun y10=>X0 (y10,IntKind.i64.wrap (s1.2.1+1),()))) (y4,0,()))
   (R (T.sl false (List.map Sy.str.enc s1.1)))) ([],0,()):=by
 have dk:∀ {l:List ByteArray} {K:List ByteArray→Prop},K l→bP Sy.str (List.map Sy.str.enc l) K:=fun h=>by rw[j6 (r:=.str) rfl];exact h
 refine cS l.length (fun k s=>s=(nK [] (l.take k),(k:Int),())∧(nK [] (l.take k)).length≤k*M) ⟨rfl,Nat.zero_le _⟩ ?_
 rintro X k s hk ⟨rfl,hz⟩ hX
 dsimp only
 rw[List.length_map]
 refine eP (fun hlt=>?_) fun hge=>?_
 ·have hlt:k<l.length:=by omega
  rw[cK (r:=aR) hlt]
  have hn:=hok _ (List.getElem_mem hlt)
  refine aM (s:=[(false,Sy.str.li)]) (y:=cT (aV l[k])) ((B5 ..).trans (by unfold iQ;rw[hn,OU];rfl)) (dk ?_)
  have hB:=hN _ (List.getElem_mem hlt)
  have eF:nK [] (l.take (k+1))=(cT (aV l[k])).foldl bV (nK [] (l.take k)):=by
   unfold nK;rw[List.take_succ_eq_append_getElem hlt,List.foldl_append];rfl
  generalize cT (aV l[k])=B at hB eF ⊢
  generalize nK [] (l.take k)=O at hz eF ⊢
  have hkM:k*M≤100*3000000:=Nat.mul_le_mul (by omega) hM
  refine cS B.length (fun j q=>q=((B.take j).foldl bV O,(j:Int),())) rfl ?_
  rintro Y j q hj rfl hY
  dsimp only
  rw[List.length_map]
  have hO:=sQ (B.take j) O
  rw[List.length_take] at hO
  refine eP (fun hlt2=>?_) fun hge2=>?_
  ·have hlt2:j<B.length:=by omega
   rw[cK (r:=.str) hlt2]
   refine aM (s:=[(false,Sy.str.li)]) (y:=bV ((B.take j).foldl bV O) B[j]) ((J7 ..).trans (by unfold mE;dsimp only;rw[decide_eq_true (by omega)];rfl)) (dk ?_)
   refine hY _ hlt2 ?_
   rw[List.take_succ_eq_append_getElem hlt2,List.foldl_append,show IntKind.i64.wrap ((j:Int)+1)=((j+1:Nat):Int) from cX _ (by omega) (by omega)];rfl
  ·have:j=B.length:=by omega
   subst this
   rw[List.take_length]
   refine dk (hX _ hlt ⟨?_,?_⟩)
   ·rw[eF,show IntKind.i64.wrap ((k:Int)+1)=((k+1:Nat):Int) from cX _ (by omega) (by omega)]
   ·have:=sQ B O
    rw[eF,Nat.succ_mul];omega
 ·have:k=l.length:=by omega
  subst this
  rw[List.take_length];exact hR
theorem JW:aZ Tryz.prog 19 lA:=YF fun o r h hb=>by
 clear hb
 obtain ⟨hc,rfl⟩:=iM h
 clear h
 obtain ⟨hl,hok⟩:=vR hc
 unfold GA
 exact OT (M:=2000010) (l:=o.2) (R:=fun y=>y=T.sl false (List.map Sy.str.enc (jP o.2))) (by omega) hl (fun e he=>Nat.le_trans (l5 _) (kH (hok e he))) hok (by rw[SM])
noncomputable def Z5:Env:=Env.of [(19,.pure lA),(22,.pure mT)]
def AAG:FuncId→Hint:=fM 27 [(4,.inv [.own 7 1 .str,.val 8 false (.int .i64)])] (fun _=>bW)
theorem Q9:aH Tryz.prog Z5:=.cons JW (.cons JU (.nil _))
def F1 (a0:bB) (a1:bB) (R:T→Prop):Prop :=
 aE [(false,Sy.str.li)] (lA [aG true aU a0]) fun (y0:List ByteArray) =>
 aE [(false,Sy.str.li)] (lA [aG true aU a1]) fun (y1:List ByteArray) =>
 bM (List ByteArray×Int×PUnit)
 (fun (X2:List ByteArray×Int×PUnit→Prop) (s3:List ByteArray×Int×PUnit) =>
 aF (decide (s3.2.1<(↑(List.map Sy.str.enc y0).length:Int)))
 (a7 Sy.str (List.map Sy.str.enc y0) s3.2.1 fun (y4:ByteArray) =>
 aE [(false,Sy.bool)]
 (mT [T.sl false (List.map Sy.str.enc y1),T.v (.string y4)])
 fun (y5:Bool) =>
 aF y5
 (a7 Sy.str (List.map Sy.str.enc y0) s3.2.1 fun (y6:ByteArray) =>
 aD
 (decide (((List.map Sy.str.enc s3.1).length+1)*16≤140737488355328) &&
 decide ((List.map Sy.str.enc s3.1).length+1≤140737488355328))
 (bP Sy.str (List.map Sy.str.enc s3.1++[[T.v (.string y6)]])
 fun (y7:List ByteArray)=>X2 (y7,IntKind.i64.wrap (s3.2.1+1),())))
 (bP Sy.str (List.map Sy.str.enc s3.1) fun (y8:List ByteArray) =>
 X2 (y8,IntKind.i64.wrap (s3.2.1+1),())))
 (R (T.sl false (List.map Sy.str.enc s3.1))))
 ([],0,())
abbrev HZ:Sh:=[(true,aU),(true,aU)]
def o9 (x:bB×bB):Option T:=match tX x.1&&(tX x.2&&decide ((jP x.1.2).length≤1000000000)) with
 | true=>some (T.sl false (List.map Sy.str.enc (p8 x.1.2 x.2.2)))
 | false=>none
noncomputable def mS:List T→Option T:=gS HZ o9
theorem NG {a0 a1}:mS [aG true aU a0,aG true aU a1]=o9 (a0,a1):=cG (s:=HZ) rfl (a0,a1) rfl
theorem XZ:Of2 Tryz.prog 27 mS o9 (fF HZ) F1:=HI (a1:=(true,aU)) (a2:=(true,aU)) (sp:=o9) (F:=F1) (Hs:=AAG) (f:=27) (k:=8) Q9 bA bJ (aX rfl) ⟨_,_,Tryz.func27,rfl⟩ rfl fun _ _ _=>by kernel_rfl
theorem WA:aZ Tryz.prog 27 mS:=XZ fun a b r h hb=>by
 clear hb
 obtain ⟨hc,rfl⟩:=iM h
 clear h
 rw[Bool.and_eq_true,Bool.and_eq_true,decide_eq_true_eq] at hc
 obtain ⟨ha,hb,hl⟩:=hc
 dsimp only at ha hb hl
 unfold F1
 refine aM (s:=[(false,Sy.str.li)]) (y:=jP a.2) ((sX ..).trans (by unfold kQ;rw[ha];rfl)) ?_
 refine aM (s:=[(false,Sy.str.li)]) (y:=jP b.2) ((sX ..).trans (by unfold kQ;rw[hb];rfl)) ?_
 show _
 unfold p8
 generalize jP a.2=A at hl ⊢
 generalize jP b.2=B
 refine cS A.length (fun k s=>s=((A.take k).filter (fun s=>DR B s),(k:Int),())) rfl ?_
 rintro X k s hk rfl hX
 dsimp only
 rw[List.length_map]
 refine eP (fun hlt=>?_) fun hge=>?_
 ·have hlt:k<A.length:=by omega
  have hw:IntKind.i64.wrap ((k:Int)+1)=((k+1:Nat):Int):=cX _ (by omega) (by omega)
  have hz:=List.length_filter_le (fun s=>DR B s) (A.take k)
  rw[List.length_take] at hz
  rw[cK (r:=.str) hlt]
  refine aM (s:=QR) (y:=DR B A[k]) (B3 ..) ?_
  refine ifB (fun hh=>?_) fun hh=>?_
  ·rw[cK (r:=.str) hlt,GJ (by omega),uV]
   refine hX _ hlt ?_
   rw[List.take_succ_eq_append_getElem hlt,List.filter_append,hw]
   simp[hh]
  ·rw[j6 (r:=.str) rfl]
   refine hX _ hlt ?_
   rw[List.take_succ_eq_append_getElem hlt,List.filter_append,hw]
   simp[hh]
 ·have:k=A.length:=by omega
  subst this
  rw[List.take_length]
noncomputable def Z6:Env:=Env.of []
def AAH:FuncId→Hint:=fM 24 [(4,.inv [.val 5 false (.int .i64)]),(10,.inv [.val 7 false (.int .i64)])] (fun _=>bW)
theorem RA:aH Tryz.prog Z6:=.nil _
def F2 (a0:bB) (a1:Int) (R:T→Prop):Prop :=
 aF (decide (100<(↑(ByteArray.size a0.1):Int))) (R (T.v (.bool false)))
 (aF (decide (a1<(↑(List.map aR.enc a0.2).length:Int))) (R (T.v (.bool false)))
 (bM (Int×PUnit)
 (fun (X0:Int×PUnit→Prop) (s1:Int×PUnit) =>
 aF (decide (s1.1<(↑(List.map aR.enc a0.2).length:Int)))
 (a7 aR (List.map aR.enc a0.2) s1.1 fun (y2:bD) =>
 aF
 (decide (40<(↑(List.map Sy.str.enc y2.2.2.2.2.2.2.1.2.2.1).length:Int)))
 (R (T.v (.bool false)))
 (aF
 (decide
 (40<(↑(List.map Sy.str.enc y2.2.2.2.2.2.2.1.2.2.2.2).length:Int)))
 (R (T.v (.bool false)))
 (aF
 (decide
 (100 <
 (↑(List.map aP.enc y2.2.2.2.2.1.2.2.2.2.2.2.1.1).length :
 Int)))
 (R (T.v (.bool false)))
 (aF
 (decide
 (20 <
 (↑(List.map aP.li.enc y2.2.2.2.2.1.2.2.2.2.2.2.1.2).length :
 Int)))
 (R (T.v (.bool false)))
 (bM (Int×PUnit)
 (fun (X3:Int×PUnit→Prop) (s4:Int×PUnit) =>
 aF
 (decide
 (s4.1 <
 (↑(List.map aP.li.enc
 y2.2.2.2.2.1.2.2.2.2.2.2.1.2).length :
 Int)))
 (a7 aP.li
 (List.map aP.li.enc y2.2.2.2.2.1.2.2.2.2.2.2.1.2) s4.1
 fun (y5:List bI) =>
 aF (decide (100<(↑(List.map aP.enc y5).length:Int)))
 (R (T.v (.bool false))) (X3 (IntKind.i64.wrap (s4.1+1),())))
 (X0 (IntKind.i64.wrap (s1.1+1),())))
 (0,()))))))
 (R (T.v (.bool true))))
 (0,())))
abbrev H0:Sh:=[(true,aU),(false,(Sy.int IntKind.i64))]
def BL (x:bD):Bool:=decide ((x.2.2.2.2.2.2.1.2.2.1.length:Int)≤40)&&(decide ((x.2.2.2.2.2.2.1.2.2.2.2.length:Int)≤40)&&(decide ((x.2.2.2.2.1.2.2.2.2.2.2.1.1.length:Int)≤100)&&(decide ((x.2.2.2.2.1.2.2.2.2.2.2.1.2.length:Int)≤20)&&x.2.2.2.2.1.2.2.2.2.2.2.1.2.all fun h=>decide ((h.length:Int)≤100))))
def nJ (o:bB) (n:Int):Bool:=decide ((o.1.size:Int)≤100)&&(decide ((o.2.length:Int)≤n)&&o.2.all BL)
def wE (x:bB×Int):Option T:=match decide (x.2≤1000) with
 | true=>some (Sh.enc QR (nJ x.1 x.2))
 | false=>none
noncomputable def pP:List T→Option T:=gS H0 wE
theorem B2 {a0 a1}:pP [aG true aU a0,T.v (.int .i64 a1)]=wE (a0,a1):=cG (s:=H0) rfl (a0,a1) rfl
theorem X4:Of2 Tryz.prog 24 pP wE (fF H0) F2:=HI (a1:=(true,aU)) (a2:=(false,(Sy.int IntKind.i64))) (sp:=wE) (F:=F2) (Hs:=AAH) (f:=24) (k:=8) RA bA bJ (aX rfl) ⟨_,_,Tryz.func24,rfl⟩ rfl fun _ _ _=>by kernel_rfl
theorem WB:aZ Tryz.prog 24 pP:=X4 fun o n r h hb=>by
 clear hb
 obtain ⟨hn,rfl⟩:=iM h
 clear h
 have hn:n≤1000:=of_decide_eq_true hn
 have no:nJ o n=false→T.v (.bool false)=Sh.enc QR (nJ o n):=fun h=>by rw[h];rfl
 unfold F2
 simp only[List.length_map]
 refine mX (fun h=>no (by unfold nJ;rw[decide_eq_false h];rfl)) fun g1=>?_
 refine mX (fun h=>no (by unfold nJ;rw[decide_eq_false h,Bool.false_and,Bool.and_false])) fun g2=>?_
 refine cS o.2.length (fun k s=>s=((k:Int),())∧nJ o n=(o.2.drop k).all BL) ⟨rfl,by unfold nJ;rw[decide_eq_true g1,decide_eq_true g2];rfl⟩ ?_
 rintro X k s hk ⟨rfl,he⟩ hX
 dsimp only
 refine eP (fun hlt=>?_) fun hge=>?_
 ·have hlt:k<o.2.length:=by omega
  rw[I2 hlt] at he
  rw[cK (r:=aR) hlt]
  generalize o.2[k]=x at he ⊢
  unfold BL at he
  refine mX (fun h=>no (by rw[he,decide_eq_false h];rfl)) fun k1=>?_
  rw[decide_eq_true k1,Bool.true_and] at he
  refine mX (fun h=>no (by rw[he,decide_eq_false h];rfl)) fun k2=>?_
  rw[decide_eq_true k2,Bool.true_and] at he
  refine mX (fun h=>no (by rw[he,decide_eq_false h];rfl)) fun k3=>?_
  rw[decide_eq_true k3,Bool.true_and] at he
  refine mX (fun h=>no (by rw[he,decide_eq_false h];rfl)) fun k4=>?_
  rw[decide_eq_true k4,Bool.true_and] at he
  generalize x.2.2.2.2.1.2.2.2.2.2.2.1.2=H at k4 he ⊢
  refine cS H.length (fun j q=>q=((j:Int),())∧nJ o n=((H.drop j).all (fun h=>decide ((h.length:Int)≤100))&&(o.2.drop (k+1)).all BL)) ⟨rfl,by rw[List.drop_zero];exact he⟩ ?_
  rintro Y j q hj ⟨rfl,hq⟩ hY
  dsimp only
  refine eP (fun hlt2=>?_) fun hge2=>?_
  ·have hlt2:j<H.length:=by omega
   rw[I2 hlt2] at hq
   rw[cK (r:=.li aP) hlt2]
   refine mX (fun h=>no (by rw[hq,decide_eq_false h];rfl)) fun k5=>?_
   rw[decide_eq_true k5,Bool.true_and] at hq
   exact hY _ hlt2 ⟨by rw[show IntKind.i64.wrap ((j:Int)+1)=((j+1:Nat):Int) from cX _ (by omega) (by omega)],hq⟩
  ·rw[List.drop_eq_nil_of_le (by omega),List.all_nil,Bool.true_and] at hq
   exact hX _ hlt ⟨by rw[show IntKind.i64.wrap ((k:Int)+1)=((k+1:Nat):Int) from cX _ (by omega) (by omega)],hq⟩
 ·rw[he,List.drop_eq_nil_of_le (by omega)];rfl
theorem JP {o:bB} {n:Int} (hn:n≤100) (h:nJ o n=true):tX o=true:=by
 unfold nJ at h
 rw[Bool.and_eq_true,Bool.and_eq_true,decide_eq_true_eq,decide_eq_true_eq] at h
 obtain ⟨_,h2,h3⟩:=h
 unfold tX
 rw[Bool.and_eq_true]
 refine ⟨decide_eq_true (by omega),List.all_eq_true.2 fun x hx=>?_⟩
 have hx:=List.all_eq_true.1 h3 x hx
 unfold BL at hx
 rw[Bool.and_eq_true,Bool.and_eq_true,decide_eq_true_eq,decide_eq_true_eq] at hx
 unfold CM
 rw[Bool.and_eq_true]
 exact ⟨decide_eq_true (by omega),decide_eq_true (by omega)⟩
end Go.Pv
namespace Go.Pv
open Go Go.RowKit
section
variable {ag : Bool} {r : Sy}
theorem AD6 {es:List (ByteArray×r.den)} {seen:List Nat} {i:Nat} (hi:i<es.length) (K:ByteArray→r.den→Prop) (hk:K es[i].1 es[i].2):VY .str ag r (List.map (dE .str ag r) es) (seen++[i]) K :=
 ⟨i,es[i].1,es[i].2,by simp,by simp[hi],hk⟩
abbrev VB:=List ByteArray×(Nat×List Nat×Nat)×PUnit
end
end Go.Pv
namespace Go.Pv
open Go Go.Proofs
def vG:List (List T)→Option (List (List T)):=kC
theorem NN (l:List ByteArray) (K:List (List T)→Prop):fJ (List (List T)) (vG (List.map Sy.str.enc l)) K=K (List.map Sy.str.enc (fZ cO l)):=oO l K
theorem WH:cN Tryz.prog 71 (oL 1 vG):=w7
noncomputable def ADM:Env:=Env.of [(70,.pure iI),(71,.perm 1 vG)]
def ADQ:FuncId→Hint:=fun f=>match f == 46 with|true=>⟨P4 [(3,.inv [.val 12 false (.int .i64),.map 2 .str false .bool]),(6,.inv [.val 19 false (.int .i64),.map 2 .str false .bool])],fun _ _=>none,fun _=>none⟩|false=>match f == 47 with|true=>⟨fun r=>match r == 3 with|true=>.inv [.own 5 1 .str,.iL 3 (some 2)]|false=>.none,fun _ _=>none,fun r=>match r == 4 with|true=>some (.str,false,.bool)|false=>none⟩|false=>bW
theorem UZ:aH Tryz.prog ADM:=.cons EJ (.cons WH (.nil _))
def MG (a0:bB) (R:T→Prop):Prop :=
 iG Sy.str false Sy.bool [] fun (y0:List (ByteArray×Bool)) =>
 bM (Int×List (ByteArray×Bool)×PUnit)
 (fun (X1:Int×List (ByteArray×Bool)×PUnit→Prop) (s2:Int×List (ByteArray×Bool)×PUnit) =>
 aF (decide (s2.1<(↑(List.map aR.enc a0.2).length:Int)))
 (a7 aR (List.map aR.enc a0.2) s2.1 fun (y3:bD) =>
 aE [(false,Sy.str.li)] (iI [aG true aR y3])
 fun (y4:List ByteArray) =>
 iG Sy.str false Sy.bool
 (List.map (dE Sy.str false Sy.bool) s2.2.1) fun (y5:List (ByteArray×Bool)) =>
 bM (Int×List (ByteArray×Bool)×PUnit)
 (fun (X6:Int×List (ByteArray×Bool)×PUnit→Prop) (s7:Int×List (ByteArray×Bool)×PUnit) =>
 aF (decide (s7.1<(↑(List.map Sy.str.enc y4).length:Int)))
 (a7 Sy.str (List.map Sy.str.enc y4) s7.1 fun (y8:ByteArray) =>
 fJ (Option (Nat×D))
 (findD TypeDesc.string (Value.string y8)
 (List.map (dE Sy.str false Sy.bool) s7.2.1) 0)
 fun (y9:Option (Nat×D)) =>
 iG Sy.str false Sy.bool
 (kM (List.map (dE Sy.str false Sy.bool) s7.2.1) y9
 (Value.string y8) (D.p (T.v (.bool true))))
 fun (y10:List (ByteArray×Bool))=>X6 (IntKind.i64.wrap (s7.1+1),y10,()))
 (iG Sy.str false Sy.bool
 (List.map (dE Sy.str false Sy.bool) s7.2.1)
 fun (y11:List (ByteArray×Bool))=>X1 (IntKind.i64.wrap (s2.1+1),y11,())))
 (0,y5,()))
 (bM (List ByteArray×(Nat×List Nat×Nat)×PUnit)
 (fun (X12:List ByteArray×(Nat×List Nat×Nat)×PUnit→Prop)
 (s13:List ByteArray×(Nat×List Nat×Nat)×PUnit) =>
 aD
 (decide ((List.map (dE Sy.str false Sy.bool) s2.2.1).length≤s13.2.1.1) &&
 decide (s13.2.1.1≤s13.2.1.2.2))
 (PG (List.map (dE Sy.str false Sy.bool) s2.2.1).length
 s13.2.1.2.1
 (fJ (List (List T)) (vG (List.map Sy.str.enc s13.1))
 fun (y14:List (List T))=>R (T.sl false y14))
 fun (i15:Nat) =>
 aD
 (decide
 ((List.map (dE Sy.str false Sy.bool) s2.2.1).length =
 (List.map (dE Sy.str false Sy.bool) s2.2.1).length))
 (VY Sy.str false Sy.bool
 (List.map (dE Sy.str false Sy.bool) s2.2.1) (s13.2.1.2.1++[i15])
 fun (k16:ByteArray) (y17:Bool) =>
 aD
 (decide (((List.map Sy.str.enc s13.1).length+1)*16≤140737488355328) &&
 decide ((List.map Sy.str.enc s13.1).length+1≤140737488355328))
 (bP Sy.str
 (List.map Sy.str.enc s13.1++[[T.v (.string k16)]])
 fun (y18:List ByteArray) =>
 X12
 (y18,
 (s13.2.1.1,s13.2.1.2.1++[i15],
 (List.map (dE Sy.str false Sy.bool) s2.2.1).length),
 ())))))
 ([],
 ((List.map (dE Sy.str false Sy.bool) s2.2.1).length,[],
 (List.map (dE Sy.str false Sy.bool) s2.2.1).length),
 ())))
 (0,y0,())
abbrev OJ:Sh:=[(true,aU)]
theorem QT {ag:Bool} {r:Sy} {es:List (ByteArray×r.den)} {E:List (Value×D)} (hE:E=List.map (dE .str ag r) es) {o:List ByteArray} (P:ByteArray×r.den→Bool)
  {EXIT:VB→Prop} {BODY:(VB→Prop)→VB→Nat→ByteArray→r.den→Prop}
  (hbody:∀ (X:VB→Prop) (out:List ByteArray) (seen:List Nat) (i:Nat) (hi:i<es.length),out.length≤o.length+seen.length→seen.length<es.length →
   (P es[i]=true→X (out++[es[i].1],(E.length,seen++[i],E.length),()))→(P es[i]=false→X (out,(E.length,seen++[i],E.length),()))→BODY X (out,(E.length,seen,E.length),()) i es[i].1 es[i].2)
  (hexit:∀ (o2:List ByteArray) (seen:List Nat),(∀ s,s∈o2↔∃ e∈es,e.1=s∧P e=true)→o2.length≤es.length→((es.map fun e=>e.1).Nodup→o2.Nodup)→EXIT (o++o2,(E.length,seen,E.length),())) :
  bM VB (fun X s=>aD (decide (E.length≤s.2.1.1)&&decide (s.2.1.1≤s.2.1.2.2)) (PG E.length s.2.1.2.1 (EXIT s) fun i=>aD (decide (E.length=E.length)) (VY .str ag r E (s.2.1.2.1++[i]) fun k v=>BODY X s i k v))) (o,(E.length,[],E.length),()):=by
 have hn:E.length=es.length:=by rw[hE,List.length_map]
 refine S4 (fun s=>∃ (seen:List Nat) (o2:List ByteArray),s=(o++o2,(E.length,seen,E.length),())∧seen.Nodup∧(∀ i∈seen,i<es.length)∧(∀ s,s∈o2↔∃ i∈seen,∃ e,es[i]? = some e∧e.1=s∧P e=true)∧o2.length≤seen.length∧((es.map fun e=>e.1).Nodup→o2.Nodup)∧seen.length+(bQ E.length seen).length≤E.length) (fun s=>(bQ E.length s.2.1.2.1).length) ⟨[],[],by rw[List.append_nil],by simp,by simp,by simp,by simp,by simp,by rw[KT];simp⟩ ?_
 rintro X s ⟨seen,o2,rfl,hnd,hlt,hm,hl,hon,hq⟩ hX
 dsimp only
 refine ⟨by simp,fun hnil=>?_,fun i hi=>⟨by simp,?_⟩⟩
 ·refine hexit o2 seen (fun s=>?_) (by omega) hon
  rw[hm]
  constructor
  ·rintro ⟨i,_,e,he,h1,h2⟩
   exact ⟨e,List.mem_of_getElem? he,h1,h2⟩
  ·rintro ⟨e,he,h1,h2⟩
   obtain ⟨i,hi,rfl⟩:=List.mem_iff_getElem.1 he
   refine ⟨i,?_,_,List.getElem?_eq_getElem hi,h1,h2⟩
   refine Classical.byContradiction fun hc=>?_
   have:i∈bQ E.length seen:=yI.2 ⟨by omega,hc⟩
   rw[hnil] at this;cases this
 ·have hi':=yI.1 hi
  have hie:i<es.length:=by omega
  have hst:=HD hi
  subst hE
  have hnd2:(seen++[i]).Nodup:=by
   rw[List.nodup_append]
   exact ⟨hnd,by simp,fun a ha b hb=>by simp at hb;subst hb;exact fun e=>hi'.2 (e ▸ ha)⟩
  have hlt2:∀ j∈seen++[i],j<es.length:=fun j hj=>by
   rcases List.mem_append.1 hj with h|h
   ·exact hlt j h
   ·simp at h;omega
  have hpos:=List.length_pos_of_mem hi
  have hq2:(seen++[i]).length+(bQ (List.map (dE .str ag r) es).length (seen++[i])).length≤(List.map (dE .str ag r) es).length:=by simp only[List.length_append,List.length_singleton];omega
  refine AD6 hie _ (hbody X _ seen i hie (by rw[List.length_append];omega) (by omega) (fun hP=>?_) fun hP=>?_)
  ·refine hX _ ⟨seen++[i],o2++[es[i].1],by rw[List.append_assoc],hnd2,hlt2,fun s=>?_,by simp;omega,?_,hq2⟩ hst
   case refine_2 =>
    intro hk
    rw[List.nodup_append]
    refine ⟨hon hk,by simp,fun x hx y hy e=>?_⟩
    rw[List.mem_singleton.1 hy] at e
    obtain ⟨j,hj,e',he',h1,_⟩:=(hm x).1 hx
    obtain ⟨hjl,rfl⟩:=List.getElem?_eq_some_iff.1 he'
    have hne:j≠i:=fun h=>hi'.2 (h ▸ hj)
    have h2:(es.map fun e=>e.1)[j]'(by simpa using hjl)=(es.map fun e=>e.1)[i]'(by simpa using hie):=by simp[h1,e]
    rcases Nat.lt_or_gt_of_ne hne with h|h
    ·exact List.pairwise_iff_getElem.1 hk _ _ _ _ h h2
    ·exact List.pairwise_iff_getElem.1 hk _ _ _ _ h h2.symm
   rw[List.mem_append,hm,List.mem_singleton]
   constructor
   ·rintro (⟨j,hj,h⟩|rfl)
    ·exact ⟨j,List.mem_append_left _ hj,h⟩
    ·exact ⟨i,by simp,_,List.getElem?_eq_getElem hie,rfl,hP⟩
   ·rintro ⟨j,hj,e,he,h1,h2⟩
    rcases List.mem_append.1 hj with h|h
    ·exact .inl ⟨j,h,e,he,h1,h2⟩
    ·rw[List.mem_singleton.1 h,List.getElem?_eq_getElem hie] at he
     cases he;exact .inr h1.symm
  ·refine hX _ ⟨seen++[i],o2,rfl,hnd2,hlt2,fun s=>?_,by simp;omega,hon,hq2⟩ hst
   rw[hm]
   constructor
   ·rintro ⟨j,hj,h⟩;exact ⟨j,List.mem_append_left _ hj,h⟩
   ·rintro ⟨j,hj,e,he,h1,h2⟩
    rcases List.mem_append.1 hj with h|h
    ·exact ⟨j,h,e,he,h1,h2⟩
    ·rw[List.mem_singleton.1 h,List.getElem?_eq_getElem hie] at he
     cases he;rw[hP] at h2;cases h2
theorem G7 {α:Type} {k:ByteArray} {v:α}:∀ {es:List (ByteArray×α)},k∈es.map (fun e=>e.1)→(oR es k v).map (fun e=>e.1)=es.map (fun e=>e.1)
 | [],h=>by cases h
 | e::es,h=>by
  unfold oR
  by_cases h1:e.1=k
  ·simp[h1]
  ·rw[if_neg h1,List.map_cons,G7 ((List.mem_cons.1 h).resolve_left fun e'=>h1 e'.symm)];rfl
theorem KE {α:Type} {k:ByteArray} {v:α} {es:List (ByteArray×α)} (h:k∉es.map (fun e=>e.1)):(oR es k v).map (fun e=>e.1)=es.map (fun e=>e.1)++[k]:=by
 rw[xE fun e he h'=>h (List.mem_map.2 ⟨e,he,h'⟩),List.map_append];rfl
theorem KB {k:ByteArray}:∀ {es:List (ByteArray×Bool)},(∀ e∈es,e.2=true)→∀ e∈oR es k true,e.2=true
 | [],_,e,h=>by rw[oR,List.mem_singleton] at h;rw[h]
 | a::es,hp,e,h=>by
  unfold oR at h
  split at h
  ·rcases List.mem_cons.1 h with h|h
   ·rw[h]
   ·exact hp e (List.mem_cons_of_mem _ h)
  ·rcases List.mem_cons.1 h with h|h
   ·rw[h];exact hp a List.mem_cons_self
   ·exact KB (fun e he=>hp e (List.mem_cons_of_mem _ he)) e h
def oA (p:ByteArray→Prop) (n:Nat) (es:List (ByteArray×Bool)):Prop:=(es.map fun e=>e.1).Nodup∧(∀ s,s∈es.map (fun e=>e.1)↔p s)∧es.length≤n∧∀ e∈es,e.2=true
theorem oA.ins {p q:ByteArray→Prop} {n:Nat} {es:List (ByteArray×Bool)} {k:ByteArray} (h:oA p n es) (hq:∀ s,q s↔p s∨s=k):oA q (n+1) (oR es k true):=by
 refine ⟨?_,fun s=>?_,?_,KB h.2.2.2⟩
 ·by_cases hm:k∈es.map (fun e=>e.1)
  ·rw[G7 hm];exact h.1
  ·rw[KE hm,List.nodup_append]
   exact ⟨h.1,by simp,fun a ha b hb e=>hm (by rw[List.mem_singleton.1 hb] at e;rw[←e];exact ha)⟩
 ·rw[hq,←h.2.1]
  by_cases hm:k∈es.map (fun e=>e.1)
  ·rw[G7 hm]
   exact ⟨.inl,fun h'=>h'.elim (fun h=>h) fun e=>by rw[e];exact hm⟩
  ·rw[KE hm,List.mem_append,List.mem_singleton]
 ·have:=KC (k:=k) (v:=true) (es:=es)
  have:=h.2.2.1
  omega
theorem oA.mono {p q:ByteArray→Prop} {n m:Nat} {es:List (ByteArray×Bool)} (h:oA p n es) (hq:∀ s,q s↔p s) (hm:n≤m):oA q m es:=⟨h.1,fun s=>by rw[hq];exact h.2.1 s,Nat.le_trans h.2.2.1 hm,h.2.2.2⟩
abbrev ACQ (l:List bD) (EXIT:Int×List (ByteArray×Bool)×PUnit→Prop):Prop :=
 iG Sy.str false Sy.bool [] fun y0=>bM (Int×List (ByteArray×Bool)×PUnit) (fun X1 s2=>aF (decide (s2.1<(↑(List.map aR.enc l).length:Int)))
  (a7 aR (List.map aR.enc l) s2.1 fun y3=>aE [(false,Sy.str.li)] (iI [aG true aR y3]) fun (y4:List ByteArray) =>
   iG Sy.str false Sy.bool (List.map (dE Sy.str false Sy.bool) s2.2.1) fun y5 =>
    bM (Int×List (ByteArray×Bool)×PUnit) (fun X6 s7=>aF (decide (s7.1<(↑(List.map Sy.str.enc y4).length:Int)))
     (a7 Sy.str (List.map Sy.str.enc y4) s7.1 fun y8=>fJ (Option (Nat×D)) (findD TypeDesc.string (Value.string y8) (List.map (dE Sy.str false Sy.bool) s7.2.1) 0) fun y9 =>
      iG Sy.str false Sy.bool (kM (List.map (dE Sy.str false Sy.bool) s7.2.1) y9 (Value.string y8) (D.p (T.v (.bool true)))) fun y10=>X6 (IntKind.i64.wrap (s7.1+1),y10,()))
     (iG Sy.str false Sy.bool (List.map (dE Sy.str false Sy.bool) s7.2.1) fun y11=>X1 (IntKind.i64.wrap (s2.1+1),y11,()))) (0,y5,()))
  (EXIT s2)) (0,y0,())
theorem ZJ {M:Nat} {l:List bD} (hM:M≤3000000) (hNm:∀ e∈l,(cT (aV e)).length≤M) (hok:∀ e∈l,CM e=true) (hl:l.length≤100000) {EXIT:Int×List (ByteArray×Bool)×PUnit→Prop}
  (hE:∀ i es,oA (fun s=>∃ e∈l,s∈cT (aV e)) (l.length*M) es→EXIT (i,es,())):ACQ l EXIT:=by
 refine oG (r:=.bool) rfl [] _ ?_
 refine cS l.length (fun k s=>s.1=(k:Int)∧oA (fun s=>∃ e∈l.take k,s∈cT (aV e)) (k*M) s.2.1) ⟨rfl,List.Pairwise.nil,fun s=>Iff.intro (fun h=>by cases h) (fun h=>by obtain ⟨e,he,_⟩:=h;rw[List.take_zero] at he;cases he),Nat.zero_le _,fun e he=>by cases he⟩ ?_
 rintro X k ⟨i,es,u⟩ hk ⟨rfl,hs⟩ hX
 dsimp only at hs ⊢
 rw[List.length_map]
 refine eP (fun hlt=>?_) fun hge=>?_
 ·have hlt:k<l.length:=by omega
  rw[cK (r:=aR) hlt]
  have hw:∀ {j:Nat},j≤3000000→IntKind.i64.wrap ((j:Int)+1)=((j+1:Nat):Int):=fun h=>cX _ (by omega) (by omega)
  have hn:=hok _ (List.getElem_mem hlt)
  refine aM (s:=[(false,Sy.str.li)]) (y:=cT (aV l[k])) ((J5 ..).trans (by unfold mC;rw[hn];rfl)) ?_
  refine oG (r:=.bool) rfl _ _ ?_
  have hN:(cT (aV l[k])).length≤M:=hNm _ (List.getElem_mem hlt)
  generalize hB:cT (aV l[k])=B at hN ⊢
  refine cS B.length (fun j s=>s.1=(j:Int)∧oA (fun s=>(∃ e∈l.take k,s∈cT (aV e))∨s∈B.take j) (k*M+j) s.2.1) ⟨rfl,hs.mono (fun s=>by simp) (by omega)⟩ ?_
  rintro Y j ⟨i,es2,u⟩ hj ⟨rfl,hs2⟩ hY
  dsimp only at hs2 ⊢
  rw[List.length_map]
  refine eP (fun hlt2=>?_) fun hge2=>?_
  ·have hlt2:j<B.length:=by omega
   rw[cK (r:=.str) hlt2]
   refine AGQ (r:=.bool) rfl ?_
   refine hY _ hlt2 ⟨hw (by omega),hs2.ins fun s=>?_⟩
   rw[List.take_succ_eq_append_getElem hlt2,List.mem_append,List.mem_singleton,or_assoc]
  ·have:j=B.length:=by omega
   subst this
   refine oG (r:=.bool) rfl _ _ ?_
   refine hX _ hlt ⟨hw (by omega),hs2.mono (fun s=>?_) (by rw[Nat.succ_mul];omega)⟩
   show (∃ e,e∈l.take (k+1)∧s∈cT (aV e))↔(∃ e,e∈l.take k∧s∈cT (aV e))∨s∈B.take B.length
   rw[List.take_length,List.take_succ_eq_append_getElem hlt]
   constructor
   ·rintro ⟨e,he,h⟩
    rcases List.mem_append.1 he with he|he
    ·exact .inl ⟨e,he,h⟩
    ·rw[List.mem_singleton.1 he,hB] at h;exact .inr h
   ·rintro (⟨e,he,h⟩|h)
    ·exact ⟨e,List.mem_append_left _ he,h⟩
    ·exact ⟨l[k],List.mem_append_right _ (List.mem_singleton.2 rfl),by rw[hB];exact h⟩
 ·have:k=l.length:=by omega
  subst this
  rw[List.take_length] at hs
  exact hE _ _ hs
def wK (o:bB):Option T:=match tX o with
 | true=>some (T.sl false (List.map Sy.str.enc (jP o.2)))
 | false=>none
noncomputable def B4:List T→Option T:=gS OJ wK
theorem SR {a0}:B4 [aG true aU a0]=wK (a0):=cG (s:=OJ) rfl (a0) rfl
theorem AB9:RO Tryz.prog 26 B4 wK (fF OJ) MG:=xL (a1:=(true,aU)) (sp:=wK) (F:=MG) (Hs:=ADQ) (f:=26) (k:=10) UZ bA bJ (aX rfl) ⟨_,_,Tryz.func26,rfl⟩ rfl fun _ _=>by kernel_rfl
theorem ABK:aZ Tryz.prog 26 B4:=AB9 fun o r h hb=>by
 clear hb
 obtain ⟨hc,rfl⟩:=iM h
 clear h
 obtain ⟨hl,hok⟩:=vR hc
 unfold MG
 refine ZJ (M:=2000010) (l:=o.2) (by omega) (fun e he=>Nat.le_trans (l5 _) (kH (hok e he))) hok (by omega) fun _ es hs=>?_
 have hz:es.length≤1000000000:=Nat.le_trans hs.2.2.1 (by omega)
 refine QT (ag:=false) (r:=.bool) rfl (fun _=>true) (fun X out seen i hi h1 h2 hy hn=>?_) fun o2 seen hm hl2 hnd=>?_
 ·have h1:out.length≤0+seen.length:=h1
  have h2:seen.length<es.length:=h2
  dsimp only
  rw[GJ (by omega),uV]
  exact hy rfl
 ·show fJ (List (List T)) (vG (List.map Sy.str.enc ([]++o2))) _
  rw[List.nil_append,NN]
  rw[ZN (hnd hs.1) fun s=>?_]
  refine Iff.trans ?_ (hs.2.1 s)
  rw[hm,List.mem_map]
  exact ⟨fun ⟨e,he,h,_⟩=>⟨e,he,h⟩,fun ⟨e,he,h⟩=>⟨e,he,h,rfl⟩⟩
end Go.Pv
namespace Go.Pv
open Go Go.Proofs
def vH:List (List T)→Option (List (List T)):=kC
theorem NO (l:List ByteArray) (K:List (List T)→Prop):fJ (List (List T)) (vH (List.map Sy.str.enc l)) K=K (List.map Sy.str.enc (fZ cO l)):=oO l K
theorem WI:cN Tryz.prog 71 (oL 1 vH):=w7
noncomputable def ADK:Env:=Env.of [(70,.pure iI),(71,.perm 1 vH)]
def ADO:FuncId→Hint:=fun f=>match f == 46 with|true=>⟨P4 [(3,.alt [.val 12 false (.int .i64),.map 7 .str false .bool] [.val 12 false (.int .i64),.map 3 .str false .bool]),(6,.alt [.val 19 false (.int .i64),.map 7 .str false .bool] [.val 19 false (.int .i64),.map 3 .str false .bool])],fun _ _=>none,fun _=>none⟩|false=>match f == 47 with|true=>⟨fun r=>match r == 3 with|true=>.inv [.own 5 1 .str,.iL 8 (some 7)]|false=>.none,fun _ _=>none,fun r=>match r == 4 with|true=>some (.str,false,.bool)|false=>none⟩|false=>bW
theorem UU:aH Tryz.prog ADK:=.cons EJ (.cons WI (.nil _))
def L8 (a0:bB) (a1:bB) (R:T→Prop):Prop :=
 iG Sy.str false Sy.bool [] fun (y0:List (ByteArray×Bool)) =>
 bM (Int×List (ByteArray×Bool)×PUnit)
 (fun (X1:Int×List (ByteArray×Bool)×PUnit→Prop) (s2:Int×List (ByteArray×Bool)×PUnit) =>
 aF (decide (s2.1<(↑(List.map aR.enc a1.2).length:Int)))
 (a7 aR (List.map aR.enc a1.2) s2.1 fun (y3:bD) =>
 aE [(false,Sy.str.li)] (iI [aG true aR y3])
 fun (y4:List ByteArray) =>
 iG Sy.str false Sy.bool
 (List.map (dE Sy.str false Sy.bool) s2.2.1) fun (y5:List (ByteArray×Bool)) =>
 bM (Int×List (ByteArray×Bool)×PUnit)
 (fun (X6:Int×List (ByteArray×Bool)×PUnit→Prop) (s7:Int×List (ByteArray×Bool)×PUnit) =>
 aF (decide (s7.1<(↑(List.map Sy.str.enc y4).length:Int)))
 (a7 Sy.str (List.map Sy.str.enc y4) s7.1 fun (y8:ByteArray) =>
 fJ (Option (Nat×D))
 (findD TypeDesc.string (Value.string y8)
 (List.map (dE Sy.str false Sy.bool) s7.2.1) 0)
 fun (y9:Option (Nat×D)) =>
 iG Sy.str false Sy.bool
 (kM (List.map (dE Sy.str false Sy.bool) s7.2.1) y9
 (Value.string y8) (D.p (T.v (.bool true))))
 fun (y10:List (ByteArray×Bool))=>X6 (IntKind.i64.wrap (s7.1+1),y10,()))
 (iG Sy.str false Sy.bool
 (List.map (dE Sy.str false Sy.bool) s7.2.1)
 fun (y11:List (ByteArray×Bool))=>X1 (IntKind.i64.wrap (s2.1+1),y11,())))
 (0,y5,()))
 (iG Sy.str false Sy.bool [] fun (y12:List (ByteArray×Bool)) =>
 bM (Int×List (ByteArray×Bool)×PUnit)
 (fun (X13:Int×List (ByteArray×Bool)×PUnit→Prop) (s14:Int×List (ByteArray×Bool)×PUnit) =>
 aF (decide (s14.1<(↑(List.map aR.enc a0.2).length:Int)))
 (a7 aR (List.map aR.enc a0.2) s14.1 fun (y15:bD) =>
 aE [(false,Sy.str.li)] (iI [aG true aR y15])
 fun (y16:List ByteArray) =>
 iG Sy.str false Sy.bool
 (List.map (dE Sy.str false Sy.bool) s14.2.1)
 fun (y17:List (ByteArray×Bool)) =>
 bM (Int×List (ByteArray×Bool)×PUnit)
 (fun (X18:Int×List (ByteArray×Bool)×PUnit→Prop)
 (s19:Int×List (ByteArray×Bool)×PUnit) =>
 aF (decide (s19.1<(↑(List.map Sy.str.enc y16).length:Int)))
 (a7 Sy.str (List.map Sy.str.enc y16) s19.1 fun (y20:ByteArray) =>
 fJ (Option (Nat×D))
 (findD TypeDesc.string (Value.string y20)
 (List.map (dE Sy.str false Sy.bool) s19.2.1) 0)
 fun (y21:Option (Nat×D)) =>
 iG Sy.str false Sy.bool
 (kM (List.map (dE Sy.str false Sy.bool) s19.2.1) y21
 (Value.string y20) (D.p (T.v (.bool true))))
 fun (y22:List (ByteArray×Bool)) =>
 X18 (IntKind.i64.wrap (s19.1+1),y22,()))
 (iG Sy.str false Sy.bool
 (List.map (dE Sy.str false Sy.bool) s19.2.1)
 fun (y23:List (ByteArray×Bool))=>X13 (IntKind.i64.wrap (s14.1+1),y23,())))
 (0,y17,()))
 (bM (List ByteArray×(Nat×List Nat×Nat)×PUnit)
 (fun (X24:List ByteArray×(Nat×List Nat×Nat)×PUnit→Prop)
 (s25:List ByteArray×(Nat×List Nat×Nat)×PUnit) =>
 aD
 (decide
 ((List.map (dE Sy.str false Sy.bool) s14.2.1).length ≤
 s25.2.1.1) &&
 decide (s25.2.1.1≤s25.2.1.2.2))
 (PG (List.map (dE Sy.str false Sy.bool) s14.2.1).length
 s25.2.1.2.1
 (fJ (List (List T)) (vH (List.map Sy.str.enc s25.1))
 fun (y26:List (List T))=>R (T.sl false y26))
 fun (i27:Nat) =>
 aD
 (decide
 ((List.map (dE Sy.str false Sy.bool) s14.2.1).length =
 (List.map (dE Sy.str false Sy.bool) s14.2.1).length))
 (VY Sy.str false Sy.bool
 (List.map (dE Sy.str false Sy.bool) s14.2.1)
 (s25.2.1.2.1++[i27]) fun (k28:ByteArray) (y29:Bool) =>
 V6 TypeDesc.string (Value.string k28)
 (List.map (dE Sy.str false Sy.bool) s2.2.1) false Sy.bool
 (bP Sy.str (List.map Sy.str.enc s25.1) fun (y34:List ByteArray) =>
 X24
 (y34,
 (s25.2.1.1,s25.2.1.2.1++[i27],
 (List.map (dE Sy.str false Sy.bool) s14.2.1).length),
 ()))
 fun (i30:Nat) (y31:Bool) =>
 aF y31
 (aD
 (decide (((List.map Sy.str.enc s25.1).length+1)*16≤140737488355328) &&
 decide ((List.map Sy.str.enc s25.1).length+1≤140737488355328))
 (bP Sy.str
 (List.map Sy.str.enc s25.1++[[T.v (.string k28)]])
 fun (y32:List ByteArray) =>
 X24
 (y32,
 (s25.2.1.1,s25.2.1.2.1++[i27],
 (List.map (dE Sy.str false Sy.bool) s14.2.1).length),
 ())))
 (bP Sy.str (List.map Sy.str.enc s25.1)
 fun (y33:List ByteArray) =>
 X24
 (y33,
 (s25.2.1.1,s25.2.1.2.1++[i27],
 (List.map (dE Sy.str false Sy.bool) s14.2.1).length),
 ())))))
 ([],
 ((List.map (dE Sy.str false Sy.bool) s14.2.1).length,[],
 (List.map (dE Sy.str false Sy.bool) s14.2.1).length),
 ())))
 (0,y12,())))
 (0,y0,())
abbrev OH:Sh:=[(true,aU),(true,aU)]
theorem oA.get {p:ByteArray→Prop} {n:Nat} {es:List (ByteArray×Bool)} (h:oA p n es) (s:ByteArray):(kD es s=none∧¬ p s)∨(kD es s=some true∧p s):=by
 rcases mW s es with ⟨h1,h2⟩|⟨j,hj,h1,_,h3⟩
 ·refine .inl ⟨h1,fun hp=>?_⟩
  obtain ⟨e,he,h⟩:=List.mem_map.1 ((h.2.1 s).2 hp)
  exact h2 e he h
 ·refine .inr ⟨by rw[h3,h.2.2.2 _ (List.getElem_mem hj)],(h.2.1 s).1 (List.mem_map.2 ⟨_,List.getElem_mem hj,h1⟩)⟩
def pV (x:bB×bB):Option T:=match tX x.1&&tX x.2 with
 | true=>some (T.sl false (List.map Sy.str.enc (p8 x.1.2 x.2.2)))
 | false=>none
noncomputable def sU:List T→Option T:=gS OH pV
theorem EO {a0 a1}:sU [aG true aU a0,aG true aU a1]=pV (a0,a1):=cG (s:=OH) rfl (a0,a1) rfl
theorem AB5:Of2 Tryz.prog 18 sU pV (fF OH) L8:=HI (a1:=(true,aU)) (a2:=(true,aU)) (sp:=pV) (F:=L8) (Hs:=ADO) (f:=18) (k:=10) UU bA bJ (aX rfl) ⟨_,_,Tryz.func18,rfl⟩ rfl fun _ _ _=>by kernel_rfl
theorem PQ:aZ Tryz.prog 18 sU:=AB5 fun a b r h hb=>by
 clear hb
 obtain ⟨hc,rfl⟩:=iM h
 clear h
 rw[Bool.and_eq_true] at hc
 obtain ⟨la,oa⟩:=vR hc.1
 obtain ⟨lb,ob⟩:=vR hc.2
 dsimp only at la oa lb ob
 unfold L8
 refine ZJ (M:=2000010) (l:=b.2) (by omega) (fun e he=>Nat.le_trans (l5 _) (kH (ob e he))) ob (by omega) fun _ eb sb=>?_
 refine ZJ (M:=2000010) (l:=a.2) (by omega) (fun e he=>Nat.le_trans (l5 _) (kH (oa e he))) oa (by omega) fun _ es hs=>?_
 have hz:es.length≤1000000000:=Nat.le_trans hs.2.2.1 (by omega)
 refine QT (ag:=false) (r:=.bool) rfl (fun e=>(kD eb e.1).isSome) (fun X out seen i hi h1 h2 hy hn=>?_) fun o2 seen hm hl2 hnd=>?_
 ·have h1:out.length≤0+seen.length:=h1
  have h2:seen.length<es.length:=h2
  dsimp only
  refine AA9 (r:=.bool) (fun hg=>?_) fun j v hg=>?_
  ·rw[j6 (r:=.str) rfl]
   exact hn (by dsimp only;rw[hg];rfl)
  ·rcases sb.get es[i].1 with ⟨h,_⟩|⟨h,_⟩
   ·rw[h] at hg;cases hg
   ·rw[h] at hg
    cases hg
    rw[NS,GJ (by omega),uV]
    exact hy (by dsimp only;rw[h];rfl)
 ·show fJ (List (List T)) (vH (List.map Sy.str.enc ([]++o2))) _
  rw[List.nil_append,NO]
  rw[VR (a:=a.2) (b:=b.2) (hnd hs.1) fun s=>?_]
  rw[hm,mF,mF]
  constructor
  ·rintro ⟨e,he,rfl,h⟩
   refine ⟨(hs.2.1 e.1).1 (List.mem_map.2 ⟨e,he,rfl⟩),?_⟩
   rcases sb.get e.1 with ⟨h',_⟩|⟨_,h'⟩
   ·rw[h'] at h;cases h
   ·exact h'
  ·rintro ⟨h1,h2⟩
   obtain ⟨e,he,h⟩:=List.mem_map.1 ((hs.2.1 s).2 h1)
   refine ⟨e,he,h,?_⟩
   rcases sb.get s with ⟨_,h'⟩|⟨h',_⟩
   ·exact absurd h2 h'
   ·rw[h,h'];rfl
end Go.Pv
namespace Go.Pv
open Go Go.Proofs
def AD3 (k:Int) (a b:ByteArray):bD:=(k,a,b,IF.2.2.2)
def o20:bB:=(⟨#[67,49]⟩,[AD3 6 ⟨#[80,49]⟩ ⟨#[65,49]⟩,AD3 2 ⟨#[65,50]⟩ ⟨#[]⟩])
def c20:bB:=(⟨#[]⟩,[AD3 4 ⟨#[80,49]⟩ ⟨#[]⟩])
def b20:ByteArray:=⟨#[66,67,49,130,6,66,80,49,66,65,49,64,0,64,64,0,0,64,64,0,128,128,64,0,0,0,0,0,0,0,0,0,64,64,64,0,0,0,64,64,128,0,128,0,64,64,2,66,65,50,64,64,0,64,64,0,0,64,64,0,128,128,64,0,0,0,0,0,0,0,0,0,64,64,64,0,0,0,64,64,128,0,128,0,64,64]⟩
theorem AH5:N6 o20=true:=by kernel_rfl
theorem AGH:p9 o20=b20:=by kernel_rfl
theorem AF8:uU b20=(o20,0):=by kernel_rfl
theorem HH {l:List ByteArray} {s:ByteArray}:s∈cT l↔s∈l∧wX (toL s)=false:=by
 have h:s∈fZ oH (GM l)↔s∈GM l∧wX (toL s)=false:=by
  rw[←lC,toL_viaL]
  unfold oH
  rw[List.mem_filter,lC,Bool.not_eq_true']
 rw[JA] at h
 exact h
theorem ACY:(tX o20&&tX c20)=true∧p8 o20.2 c20.2=[⟨#[80,49]⟩]:=by
 refine ⟨by kernel_rfl,uO (zH _ _) (List.pairwise_singleton _ _) fun s=>?_⟩
 rw[uS,mF,mF,List.mem_singleton]
 constructor
 ·rintro ⟨_,e,he,h⟩
  cases List.mem_singleton.1 he
  exact List.mem_singleton.1 (HH.1 h).1
 ·rintro rfl
  exact ⟨⟨_,List.mem_cons_self,HH.2 ⟨List.mem_cons_self,rfl⟩⟩,⟨_,List.mem_cons_self,HH.2 ⟨List.mem_cons_self,rfl⟩⟩⟩
noncomputable def AED:List T→Option T:=gD (yW [([aG true aU o20],.v (.string b20))])
theorem ABG:aZ Tryz.prog 12 AED:=(pM PT fun x hx=>by
 cases List.mem_singleton.1 hx
 rw[ER]
 unfold zU
 rw[AH5,AGH]).deep
noncomputable def AEC:List T→Option T:=yW [([.v (.string b20)],.bN [aG true aU o20,.v (.int .i64 0)])]
theorem ABF:aZ Tryz.prog 10 AEC:=pM PR fun x hx=>by
 cases List.mem_singleton.1 hx
 rw[EP]
 unfold lG
 rw[show decide (b20.size≤1000000)=true by kernel_rfl,AF8]
 rfl
noncomputable def AEB:List T→Option T:=gD (yW [([aG true aU o20,aG true aU c20],.sl false [[.v (.string ⟨#[80,49]⟩)]])])
theorem ABE:aZ Tryz.prog 18 AEB:=(pM PQ fun x hx=>by
 cases List.mem_singleton.1 hx
 rw[EO]
 unfold pV
 rw[ACY.1,ACY.2]
 rfl).deep
end Go.Pv
namespace Go.Pv
open Go Go.Proofs
noncomputable def WV:Env:=Env.of [(66,.pure (yW EA)),(83,.pure oM),(318,.fresh (jY 1 8)),(103,.fresh (jY 3 40)),(104,.fresh (jY 6 72)),(105,.fresh (jY 3 40)),(136,.fresh (jY 2 16)),(137,.fresh (jY 1 24)),(106,.fresh (jY 18 208)),(107,.fresh (jY 5 88)),(243,.fresh (jY 1 16)),(280,.grow 3 lU),(5000000000+38,.mark)]
theorem S1:aH Tryz.prog WV:=aH.cons (x:=.pure (yW EA)) PS (aH.cons (x:=.pure oM) BT (aH.cons (x:=.fresh (jY 1 8)) JR (aH.cons (x:=.fresh (jY 3 40)) EF (aH.cons (x:=.fresh (jY 6 72)) EI (aH.cons (x:=.fresh (jY 3 40)) EE (aH.cons (x:=.fresh (jY 2 16)) PO (aH.cons (x:=.fresh (jY 1 24)) JS (aH.cons (x:=.fresh (jY 18 208)) EH (aH.cons (x:=.fresh (jY 5 88)) EG (aH.cons (x:=.fresh (jY 1 16)) JT (aH.cons (x:=.grow 3 lU) BR (aH.cons (x:=.mark) trivial (aH.nil _)))))))))))))
noncomputable def gIn:List T→Option T:=T6 Tryz.prog 400 PW WV 40 44
theorem AEA:aZ Tryz.prog 44 gIn:=CR bA bJ 400 PW S1 40 (FD (k:=39) (fn:=_) (c:=_) (by kernel_rfl) Tryz.func44 rfl (by kernel_rfl))
def AEH:FuncId→Bool:=fun f=>[260,86,128,45].contains f
noncomputable def P0:Env:=Env.of [(83,.pure oM),(66,.pure (yW EA)),(44,.pure gIn),(12,.pure AED),(10,.pure AEC),(18,.pure AEB),(5000000000+38,.mark)]
theorem NU:aH Tryz.prog P0:=aH.cons (x:=.pure oM) BT (aH.cons (x:=.pure (yW EA)) PS (aH.cons (x:=.pure gIn) AEA (aH.cons (x:=.pure AED) ABG (aH.cons (x:=.pure AEC) ABF (aH.cons (x:=.pure AEB) ABE (aH.cons (x:=.mark) trivial (aH.nil _)))))))
def AGN:List T→Option T:=fun args=>match args with | []=>some (.v (.bool true))|_=>none
def eJ:List T→Option T:=AGN
theorem BQ:aZ Tryz.prog 9 eJ :=
 SF bA bJ 400 AEH (B:=P0) NU 40 (by kernel_rfl)
end Go.Pv
