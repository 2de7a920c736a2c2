/-
  version's copies: they are what was copied.
  version's copies of designs, orders, catalogs.
  (*version.History).Latest: it reads the history where it lies.
  The examples of chapter 21, run by the kernel.
  Edits of different elements do not touch each other (plain).
  Two accepted edits that name nothing in common lead to one design in both sequences (plain).
  slices.Sort, Compact, DeleteFunc, Grow at strings.
  edit.Touches.
  Ascending lists of strings, each once (plain).
  Edits that name nothing in common (plain).
  VersionChanges, plain: maps of first elements, what differs; the least behind the last.
  VersionChanges, plain: what two designs differ in, ascending.
  shipyardref19.Touches.
  shipyardref19.Touches.
  ChangeTouches, plain: what orders name.
  Change orders, plain: what becomes of parts.
  EditOne (plain): what was added to a valid design can be removed from it again, and that leads back.
  Change orders that name nothing in common lead to one design in both sequences (plain).
  Change orders, plain: what undoes an edit, and an order.
  Histories, plain: what orders one after another make of a design; a history's versions.
  VersionFull, plain: a design whose part is revised again and again.
  VersionFull: so many orders can be committed, and no further one.
-/
import Derived.Test.YtcnfagefgkblkaaGreatDoorVsz2
import Derived.Test.YtcnfagefgkblkaaGreatDoorVskp
import Derived.Test.YtcnfagefgkblkaaGreatDoorVskj
import Derived.Test.YtcnfagefgkblkaaGreatDoorVscb
import Derived.Test.YtcnfagefgkblkaaGreatDoorVsz1
import Derived.Test.YtcnfagefgkblkaaGreatDoorProg
import Derived.Test.YtcnfagefgkblkaaGreatDoorVsgs
import Derived.Test.YtcnfagefgkblkaaGreatDoorVskq
import Derived.Test.YtcnfagefgkblkaaGreatDoorVskr
import Derived.Test.YtcnfagefgkblkaaGreatDoorVslv
import Derived.KernelRfl
import Derived.Sort.Walk0
import Derived.Test.YtcnfagefgkblkaaGreatDoorVskn
import Derived.Test.YtcnfagefgkblkaaGreatDoorVskx
set_option linter.defProp false
set_option linter.unusedSimpArgs false
set_option linter.unusedVariables false
set_option maxRecDepth 100000
namespace Go.Pv
open Go Go.Proofs
theorem ALT:uY Tryz.prog 69 3 40:=⟨fun R=>by kernel_rfl,fun fl R=>by kernel_rfl,fun fl a rows R=>by kernel_rfl⟩
noncomputable def BU:List T→Option T:=gS [(false,.li aV)] (cO aV 40)
theorem XQ {u0}:BU [T.sl false (List.map (Sy.enc aV) u0)]=cO aV 40 u0:=bC (s:=[(false,.li aV)]) rfl u0 rfl
theorem AME:aN Tryz.prog 69 BU:=mH aR aU ⟨_,_,Tryz.func69,rfl⟩ ALT
theorem ALU:uY Tryz.prog 70 6 72:=⟨fun R=>by kernel_rfl,fun fl R=>by kernel_rfl,fun fl a rows R=>by kernel_rfl⟩
noncomputable def BV:List T→Option T:=gS [(false,.li aY)] (cO aY 72)
theorem XR {u0}:BV [T.sl false (List.map (Sy.enc aY) u0)]=cO aY 72 u0:=bC (s:=[(false,.li aY)]) rfl u0 rfl
theorem AMF:aN Tryz.prog 70 BV:=mH aR aU ⟨_,_,Tryz.func70,rfl⟩ ALU
theorem ALS:uY Tryz.prog 71 3 40:=⟨fun R=>by kernel_rfl,fun fl R=>by kernel_rfl,fun fl a rows R=>by kernel_rfl⟩
noncomputable def BT:List T→Option T:=gS [(false,.li aP)] (cO aP 40)
theorem XP {u0}:BT [T.sl false (List.map (Sy.enc aP) u0)]=cO aP 40 u0:=bC (s:=[(false,.li aP)]) rfl u0 rfl
theorem AMD:aN Tryz.prog 71 BT:=mH aR aU ⟨_,_,Tryz.func71,rfl⟩ ALS
theorem ATW:uY Tryz.prog 65 4 40:=⟨fun R=>by kernel_rfl,fun fl R=>by kernel_rfl,fun fl a rows R=>by kernel_rfl⟩
noncomputable def H7:List T→Option T:=gS [(false,.li bH)] (cO bH 40)
theorem AEF {u0}:H7 [T.sl false (List.map (Sy.enc bH) u0)]=cO bH 40 u0:=bC (s:=[(false,.li bH)]) rfl u0 rfl
theorem AUQ:aN Tryz.prog 65 H7:=mH aR aU ⟨_,_,Tryz.func65,rfl⟩ ATW
theorem tV {r:Sy} {b:Nat} {l:List r.den} (h:eB b l.length=true):cO r b l=some (.sl false (List.map r.enc l)):=by
 unfold cO;rw[gE h];rfl
def idK (b:Bool) (t:T):Option T:=match b with
 | true=>some t
 | false=>none
theorem nS {b:Bool} {t r:T} (h:idK b t=some r):b=true∧r=t:=by
 cases b with
 | true=>cases h;exact ⟨rfl,rfl⟩
 | false=>cases h
theorem l6 {b:Bool} (t:T) (h:b=true):idK b t=some t:=by rw[h];rfl
theorem vC {r:Sy} (hr:r.pure=true) {l:List r.den} {b:Nat} {s:Sh} {G:List T→Option T} {A:r.den→List T} {W:Sh.den s→List (List T)} {Q:List r.den→Prop} {y0:r.den→Sh.den s}
  (hlen:eB b l.length=true) (hC:∀ y∈l,G (A y)=some (Sh.enc s (y0 y))) (hW:∀ y,∃ row,W (y0 y)=[row]∧row.map (T.canon 0)=r.enc y) (hQ:Q l) :
  a7 (Int×List r.den×PUnit) (fun (X:Int×List r.den×PUnit→Prop) (s2:Int×List r.den×PUnit)=>aD (decide (s2.1<((List.map r.enc l).length:Int)))
   (aS r (List.map r.enc l) s2.1 fun y=>aI s (G (A y)) fun z=>bN (decide (((List.map r.enc s2.2.1).length+1)*b≤140737488355328)&&decide ((List.map r.enc s2.2.1).length+1≤140737488355328))
    (bL r (List.map r.enc s2.2.1++W z) fun q=>X (IntKind.i64.wrap (s2.1+1),q,()))) (Q s2.2.1)) (0,[],()):=by
 unfold eB at hlen
 rw[Bool.and_eq_true,decide_eq_true_eq,decide_eq_true_eq] at hlen
 refine bK l.length (fun k s=>s=((k:Int),l.take k,())) rfl ?_
 rintro X k s2 hk rfl hX
 dsimp only
 rw[List.length_map,List.length_map]
 by_cases hlt:k<l.length
 ·rw[show decide ((k:Int)<(l.length:Int))=true from decide_eq_true (by omega),jY,bD hlt]
  refine aG (y:=y0 l[k]) (hC _ (List.getElem_mem hlt)) ?_
  have h1:(k+1)*b≤l.length*b:=Nat.mul_le_mul_right b (by omega)
  refine ⟨by rw[List.length_take,Nat.min_eq_left (by omega),Bool.and_eq_true,decide_eq_true_eq,decide_eq_true_eq];omega,?_⟩
  obtain ⟨row,e1,e2⟩:=hW l[k]
  rw[e1,w6 hr (l.take k) row l[k] e2]
  refine hX _ hlt ?_
  rw[show IntKind.i64.wrap ((k:Int)+1)=((k+1:Nat):Int) from bB _ (by omega) (by omega),List.take_add_one,List.getElem?_eq_getElem hlt];rfl
 ·have:k=l.length:=by omega
  subst this
  rw[show decide ((l.length:Int)<(l.length:Int))=false from decide_eq_false (by omega),mM,List.take_length]
  exact hQ
def p9 (a0:List (List aO)):List T:=[T.sl false (List.map aA.li.enc a0),T.fn 111 [] []]
noncomputable def RC:Env:=Env.of [(111,.pure eU)]
def AHD:FuncId→Hint:=bV 112 [(3,.inv [.val 10 false (.int .i64),.own 5 1 (.li aA)])] (fun _=>aX)
theorem AKD:aQ Tryz.prog RC:=.cons sZ (.nil _)
def AHB(a0:List (List aO))(R:T→Prop):Prop:=a7 (Int×List (List aO)×PUnit) (fun X0 s1=>aD (decide (s1.1<(↑(List.map aA.li.enc a0).length:Int))) (aS aA.li (List.map aA.li.enc a0) s1.1 fun (y2:List aO)=>aI [(false,aA.li)] (eU [T.sl false (List.map aA.enc y2)]) fun (y3:List aO)=>bN (decide (((List.map aA.li.enc s1.2.1).length+1)*24≤140737488355328) && decide ((List.map aA.li.enc s1.2.1).length+1≤140737488355328)) (bL aA.li (List.map aA.li.enc s1.2.1++[[T.sl false (List.map aA.enc y3)]]) fun (y4:List (List aO))=>X0 (IntKind.i64.wrap (s1.1+1),y4,()))) (R (T.sl false (List.map aA.li.enc s1.2.1)))) (0,[],())
theorem ACG ( a0 R):dH bR Tryz.prog RC AHD 8 112 (p9 a0) R=AHB a0 R:=by kernel_rfl
def NH (x:List (List aO)):Option T:=idK (eB 24 x.length&&x.all fun h=>eB 16 h.length) (.sl false (List.map aA.li.enc x))
theorem U8 (x y:List (List aO)) (h:p9 x=p9 y):x=y:=by
 unfold p9 at h
 simp only[List.cons.injEq,T.sl.injEq,and_true,true_and] at h
 exact map_inj (Sy.cY aA.li) h
noncomputable def BX:List T→Option (T):=gA (fun (x:List (List aO))=>p9 x) NH
theorem AEH (a0:List (List aO)):BX (p9 a0)=NH a0:=dS (A:=(fun (x:List (List aO))=>p9 x)) U8 a0
theorem AXV (h:∀ (a0:List (List aO)) (r:T),NH a0=some r→(∀ t∈p9 a0,Bd t)→AHB a0 (fun y=>y=r)):aN Tryz.prog 112 BX :=
 b7 (E:=RC) (Hs:=AHD) AKD aR aU (aL rfl) 8 ⟨_,_,Tryz.func112,rfl⟩ fun x r h1 h2=>by
  rw[ACG]
  exact h x r h1 h2
theorem AUS:aN Tryz.prog 112 BX:=AXV fun l r h hb=>by
 obtain ⟨h1,rfl⟩:=nS h
 rw[Bool.and_eq_true,List.all_eq_true] at h1
 exact vC (r:=aA.li) rfl (b:=24) (s:=[(false,aA.li)]) (G:=eU) (A:=fun y=>[T.sl false (List.map aA.enc y)]) (W:=fun z=>[aA.li.enc z]) (Q:=fun q=>T.sl false (List.map aA.li.enc q)=T.sl false (List.map aA.li.enc l)) (y0:=fun y=>y)
  h1.1 (fun y hy=>jL.trans (tV (h1.2 y hy))) (fun y=>⟨_,rfl,jB (r:=aA.li) y rfl⟩) rfl
noncomputable def AJ1:Env:=Env.of [(111,.pure eU),(112,.pure BX)]
def AK2:FuncId→Hint:=fun _=>aX
theorem VH:aQ Tryz.prog AJ1:=.cons sZ (.cons AUS (.nil _))
def D5(a0:a8)(R:T→Prop):Prop:=aI [(false,aA.li)] (eU [T.sl false (List.map aA.enc a0.2.2.2.2.2.2.1.1)]) fun (y0:List aO)=>aI [(false,aA.li.li)] (BX [T.sl false (List.map aA.li.enc a0.2.2.2.2.2.2.1.2),T.fn 111 [] []]) fun (y1:List (List aO))=>R (T.agg [T.v (.string a0.1),T.v (.int .i64 a0.2.1), T.v (.int .i64 a0.2.2.1),T.v (.string a0.2.2.2.1), T.v (.string a0.2.2.2.2.1), T.v (.int .i64 a0.2.2.2.2.2.1), T.sl false (List.map aA.enc y0),T.sl false (List.map aA.li.enc y1), T.v (.string a0.2.2.2.2.2.2.2.1), T.v (.int .i64 a0.2.2.2.2.2.2.2.2.1), T.v (.int .i64 a0.2.2.2.2.2.2.2.2.2.1), T.v (.int .i64 a0.2.2.2.2.2.2.2.2.2.2.1.1), T.v (.int .i64 a0.2.2.2.2.2.2.2.2.2.2.1.2.1), T.v (.int .i64 a0.2.2.2.2.2.2.2.2.2.2.1.2.2), T.v (.int .i64 a0.2.2.2.2.2.2.2.2.2.2.2.1.1), T.v (.int .i64 a0.2.2.2.2.2.2.2.2.2.2.2.1.2.1), T.v (.int .i64 a0.2.2.2.2.2.2.2.2.2.2.2.1.2.2), T.v (.int .i64 a0.2.2.2.2.2.2.2.2.2.2.2.2)])
abbrev F2:Sh:=[(true,aK)]
def tX (x:a8):Option T:=idK (eK x) (aF true aK x)
noncomputable def lC:List T→Option T:=gS F2 tX
theorem BZ {a0}:lC [aF true aK a0]=tX (a0):=bC (s:=F2) rfl (a0) rfl
theorem AFJ:rM Tryz.prog 73 lC tX (b9 F2) D5:=gQ (a1:=(true,aK)) (sp:=tX) (F:=D5) (Hs:=AK2) (f:=73) (k:=8) VH aR aU (aL rfl) ⟨_,_,Tryz.func73,rfl⟩ rfl fun _ _=>by kernel_rfl
theorem K6:aN Tryz.prog 73 lC:=AFJ fun p r h hb=>by
 obtain ⟨h1,rfl⟩:=nS h
 unfold eK IA at h1
 rw[Bool.and_eq_true,Bool.and_eq_true] at h1
 unfold D5
 refine aG (s:=[(false,aA.li)]) (y:=p.2.2.2.2.2.2.1.1) (jL.trans (tV h1.1.1)) ?_
 refine aG (s:=[(false,aA.li.li)]) (y:=p.2.2.2.2.2.2.1.2) ((AEH _).trans (l6 _ (by rw[h1.1.2,h1.2];rfl))) ?_
 rfl
noncomputable def AJ0:Env:=Env.of [(113,.pure fI)]
def AK1:FuncId→Hint:=fun _=>aX
theorem VG:aQ Tryz.prog AJ0:=.cons vL (.nil _)
def D4(a0:aW)(R:T→Prop):Prop:=aI [(false,Sy.str.li)] (fI [T.sl false (List.map Sy.str.enc a0.2.2.1)]) fun (y0:List ByteArray)=>aI [(false,Sy.str.li)] (fI [T.sl false (List.map Sy.str.enc a0.2.2.2.2)]) fun (y1:List ByteArray)=>R (T.agg [T.v (.string a0.1),T.v (.string a0.2.1), T.sl false (List.map Sy.str.enc y0),T.v (.int .i64 a0.2.2.2.1), T.sl false (List.map Sy.str.enc y1)])
abbrev F1:Sh:=[(true,aE)]
def tW (x:aW):Option T:=idK (dY x) (aF true aE x)
noncomputable def lB:List T→Option T:=gS F1 tW
theorem BY {a0}:lB [aF true aE a0]=tW (a0):=bC (s:=F1) rfl (a0) rfl
theorem AFI:rM Tryz.prog 75 lB tW (b9 F1) D4:=gQ (a1:=(true,aE)) (sp:=tW) (F:=D4) (Hs:=AK1) (f:=75) (k:=8) VG aR aU (aL rfl) ⟨_,_,Tryz.func75,rfl⟩ rfl fun _ _=>by kernel_rfl
theorem K5:aN Tryz.prog 75 lB:=AFI fun p r h hb=>by
 obtain ⟨h1,rfl⟩:=nS h
 unfold dY at h1
 rw[Bool.and_eq_true] at h1
 unfold D4
 refine aG (s:=[(false,.li .str)]) (y:=p.2.2.1) (iR.trans (tV h1.1)) ?_
 refine aG (s:=[(false,.li .str)]) (y:=p.2.2.2.2) (iR.trans (tV h1.2)) ?_
 rfl
noncomputable def A0D:Env:=Env.of [(73,.pure lC),(75,.pure lB)]
def A1T:FuncId→Hint:=fun _=>aX
theorem AKE:aQ Tryz.prog A0D:=.cons K6 (.cons K5 (.nil _))
def RL(a0:aZ)(R:T→Prop):Prop:=aI [(true,aK)] (lC [aF true aK a0.2.2.2.2.1]) fun (y0:a8)=>aI [(true,aE)] (lB [aF true aE a0.2.2.2.2.2.2.1]) fun (y1:aW)=>R ((aF true aM (a0.1,a0.2.1,a0.2.2.1,a0.2.2.2.1,y0,a0.2.2.2.2.2.1,y1,a0.2.2.2.2.2.2.2)))
abbrev TX:Sh:=[(true,aM)]
def DJ (x:aZ):Option T:=idK (eK (cW x)&&dY (gY x)) (aF true aM x)
noncomputable def xG:List T→Option T:=gS TX DJ
theorem AEI {a0}:xG [aF true aM a0]=DJ (a0):=bC (s:=TX) rfl (a0) rfl
theorem AXW:rM Tryz.prog 79 xG DJ (b9 TX) RL:=gQ (a1:=(true,aM)) (sp:=DJ) (F:=RL) (Hs:=A1T) (f:=79) (k:=8) AKE aR aU (aL rfl) ⟨_,_,Tryz.func79,rfl⟩ rfl fun _ _=>by kernel_rfl
theorem AUT:aN Tryz.prog 79 xG:=AXW fun x r h hb=>by
 obtain ⟨h1,rfl⟩:=nS h
 rw[Bool.and_eq_true] at h1
 unfold RL
 refine aG (s:=[(true,aK)]) (y:=cW x) ((BZ ..).trans (l6 _ h1.1)) ?_
 refine aG (s:=[(true,aE)]) (y:=gY x) ((BY ..).trans (l6 _ h1.2)) ?_
 rfl
noncomputable def A0E:Env:=Env.of [(68,.pure rS)]
def A1U:FuncId→Hint:=fun _=>aX
theorem AKF:aQ Tryz.prog A0E:=.cons O9 (.nil _)
def BH5:Sy:=Sy.int IntKind.i64
def RM(a0:cR)(R:T→Prop):Prop:=aI [(false,BH5.li)] (rS [T.sl false (List.map BH5.enc a0.2.2.2)]) fun (y0:List Int)=>R (T.agg [T.v (.string a0.1),T.v (.int .i64 a0.2.1), T.v (.int .i64 a0.2.2.1), T.sl false (List.map BH5.enc y0)])
abbrev TY:Sh:=[(true,bQ)]
def DK (x:cR):Option T:=idK (eB 8 x.2.2.2.length) (aF true bQ x)
noncomputable def xH:List T→Option T:=gS TY DK
theorem AEJ {a0}:xH [aF true bQ a0]=DK (a0):=bC (s:=TY) rfl (a0) rfl
theorem AXX:rM Tryz.prog 67 xH DK (b9 TY) RM:=gQ (a1:=(true,bQ)) (sp:=DK) (F:=RM) (Hs:=A1U) (f:=67) (k:=8) AKF aR aU (aL rfl) ⟨_,_,Tryz.func67,rfl⟩ rfl fun _ _=>by kernel_rfl
theorem AUU:aN Tryz.prog 67 xH:=AXX fun x r h hb=>by
 obtain ⟨h1,rfl⟩:=nS h
 unfold RM BH5
 refine aG (s:=[(false,.li (.int .i64))]) (y:=x.2.2.2) (G4.trans (tV h1)) ?_
 rfl
def kW (a0:List a8):List T:=[T.sl false (List.map aK.enc a0),T.fn 73 [] []]
noncomputable def D1:Env:=Env.of [(73,.pure lC)]
def OP:FuncId→Hint:=bV 72 [(3,.inv [.val 10 false (.int .i64),.own 5 18 aK])] (fun _=>aX)
theorem VF:aQ Tryz.prog D1:=.cons K6 (.nil _)
def OL(a0:List a8)(R:T→Prop):Prop:=a7 (Int×List a8×PUnit) (fun X0 s1=>aD (decide (s1.1<(↑(List.map aK.enc a0).length:Int))) (aS aK (List.map aK.enc a0) s1.1 fun (y2:a8)=>aI [(true,aK)] (lC [aF true aK y2]) fun (y3:a8)=>bN (decide (((List.map aK.enc s1.2.1).length+1)*208≤140737488355328) && decide ((List.map aK.enc s1.2.1).length+1≤140737488355328)) (bL aK (List.map aK.enc s1.2.1 ++ [(aK.enc y3)]) fun (y4:List a8)=>X0 (IntKind.i64.wrap (s1.1+1),y4,()))) (R (T.sl false (List.map aK.enc s1.2.1)))) (0,[],())
theorem RJ ( a0 R):dH bR Tryz.prog D1 OP 8 72 (kW a0) R=OL a0 R:=by kernel_rfl
def AY (x:List a8):Option T:=idK (eB 208 x.length&&x.all fun y=>eK y) (.sl false (List.map aK.enc x))
theorem NW (x y:List a8) (h:kW x=kW y):x=y:=by
 unfold kW at h
 simp only[List.cons.injEq,T.sl.injEq,and_true,true_and] at h
 exact map_inj (Sy.cY aK) h
noncomputable def rW:List T→Option (T):=gA (fun (x:List a8)=>kW x) AY
theorem SW (a0:List a8):rW (kW a0)=AY a0:=dS (A:=(fun (x:List a8)=>kW x)) NW a0
theorem AFH (h:∀ (a0:List a8) (r:T),AY a0=some r→(∀ t∈kW a0,Bd t)→OL a0 (fun y=>y=r)):aN Tryz.prog 72 rW :=
 b7 (E:=D1) (Hs:=OP) VF aR aU (aL rfl) 8 ⟨_,_,Tryz.func72,rfl⟩ fun x r h1 h2=>by
  rw[RJ]
  exact h x r h1 h2
theorem ADT:aN Tryz.prog 72 rW:=AFH fun l r h hb=>by
 obtain ⟨h1,rfl⟩:=nS h
 rw[Bool.and_eq_true,List.all_eq_true] at h1
 exact vC (r:=aK) rfl (b:=208) (s:=[(true,aK)]) (G:=lC) (A:=fun y=>[aF true aK y]) (W:=fun z=>[Sy.enc aK z]) (Q:=fun q=>T.sl false (List.map aK.enc q)=T.sl false (List.map aK.enc l)) (y0:=fun y=>y)
  h1.1 (fun y hy=>(BZ ..).trans (l6 _ (h1.2 y hy))) (fun y=>⟨_,rfl,jB (r:=aK) y rfl⟩) rfl
def kV (a0:List aW):List T:=[T.sl false (List.map aE.enc a0),T.fn 75 [] []]
noncomputable def D0:Env:=Env.of [(75,.pure lB)]
def OO:FuncId→Hint:=bV 74 [(3,.inv [.val 10 false (.int .i64),.own 5 5 aE])] (fun _=>aX)
theorem VE:aQ Tryz.prog D0:=.cons K5 (.nil _)
def OK(a0:List aW)(R:T→Prop):Prop:=a7 (Int×List aW×PUnit) (fun X0 s1=>aD (decide (s1.1<(↑(List.map aE.enc a0).length:Int))) (aS aE (List.map aE.enc a0) s1.1 fun (y2:aW)=>aI [(true,aE)] (lB [aF true aE y2]) fun (y3:aW)=>bN (decide (((List.map aE.enc s1.2.1).length+1)*88≤140737488355328) && decide ((List.map aE.enc s1.2.1).length+1≤140737488355328)) (bL aE (List.map aE.enc s1.2.1 ++ [[T.v (.string y3.1),T.v (.string y3.2.1), T.sl false (List.map Sy.str.enc y3.2.2.1), T.v (.int .i64 y3.2.2.2.1), T.sl false (List.map Sy.str.enc y3.2.2.2.2)]]) fun (y4:List aW)=>X0 (IntKind.i64.wrap (s1.1+1),y4,()))) (R (T.sl false (List.map aE.enc s1.2.1)))) (0,[],())
theorem RI ( a0 R):dH bR Tryz.prog D0 OO 8 74 (kV a0) R=OK a0 R:=by kernel_rfl
def AX (x:List aW):Option T:=idK (eB 88 x.length&&x.all fun y=>dY y) (.sl false (List.map aE.enc x))
theorem NV (x y:List aW) (h:kV x=kV y):x=y:=by
 unfold kV at h
 simp only[List.cons.injEq,T.sl.injEq,and_true,true_and] at h
 exact map_inj (Sy.cY aE) h
noncomputable def rV:List T→Option (T):=gA (fun (x:List aW)=>kV x) AX
theorem SV (a0:List aW):rV (kV a0)=AX a0:=dS (A:=(fun (x:List aW)=>kV x)) NV a0
theorem AFG (h:∀ (a0:List aW) (r:T),AX a0=some r→(∀ t∈kV a0,Bd t)→OK a0 (fun y=>y=r)):aN Tryz.prog 74 rV :=
 b7 (E:=D0) (Hs:=OO) VE aR aU (aL rfl) 8 ⟨_,_,Tryz.func74,rfl⟩ fun x r h1 h2=>by
  rw[RI]
  exact h x r h1 h2
theorem ADS:aN Tryz.prog 74 rV:=AFG fun l r h hb=>by
 obtain ⟨h1,rfl⟩:=nS h
 rw[Bool.and_eq_true,List.all_eq_true] at h1
 exact vC (r:=aE) rfl (b:=88) (s:=[(true,aE)]) (G:=lB) (A:=fun y=>[aF true aE y]) (W:=fun z=>[Sy.enc aE z]) (Q:=fun q=>T.sl false (List.map aE.enc q)=T.sl false (List.map aE.enc l)) (y0:=fun y=>y)
  h1.1 (fun y hy=>(BY ..).trans (l6 _ (h1.2 y hy))) (fun y=>⟨_,rfl,jB (r:=aE) y rfl⟩) rfl
def kU (a0:List aZ):List T:=[T.sl false (List.map aM.enc a0),T.fn 79 [] []]
noncomputable def DZ:Env:=Env.of [(79,.pure xG)]
def ON:FuncId→Hint:=bV 78 [(3,.inv [.val 10 false (.int .i64),.own 5 38 aM])] (fun _=>aX)
theorem VD:aQ Tryz.prog DZ:=.cons AUT (.nil _)
def OJ(a0:List aZ)(R:T→Prop):Prop:=a7 (Int×List aZ×PUnit) (fun X0 s1=>aD (decide (s1.1<(↑(List.map aM.enc a0).length:Int))) (aS aM (List.map aM.enc a0) s1.1 fun (y2:aZ)=>aI [(true,aM)] (xG [aF true aM y2]) fun (y3:aZ)=>bN (decide (((List.map aM.enc s1.2.1).length+1)*488≤140737488355328) && decide ((List.map aM.enc s1.2.1).length+1≤140737488355328)) (bL aM (List.map aM.enc s1.2.1 ++ [(aM.enc y3)]) fun (y4:List aZ)=>X0 (IntKind.i64.wrap (s1.1+1),y4,()))) (R (T.sl false (List.map aM.enc s1.2.1)))) (0,[],())
theorem RH ( a0 R):dH bR Tryz.prog DZ ON 8 78 (kU a0) R=OJ a0 R:=by kernel_rfl
def AV (x:List aZ):Option T:=idK (eB 488 x.length&&x.all fun y=>eK (cW y)&&dY (gY y)) (.sl false (List.map aM.enc x))
theorem NU (x y:List aZ) (h:kU x=kU y):x=y:=by
 unfold kU at h
 simp only[List.cons.injEq,T.sl.injEq,and_true,true_and] at h
 exact map_inj (Sy.cY aM) h
noncomputable def rU:List T→Option (T):=gA (fun (x:List aZ)=>kU x) AV
theorem SU (a0:List aZ):rU (kU a0)=AV a0:=dS (A:=(fun (x:List aZ)=>kU x)) NU a0
theorem AFF (h:∀ (a0:List aZ) (r:T),AV a0=some r→(∀ t∈kU a0,Bd t)→OJ a0 (fun y=>y=r)):aN Tryz.prog 78 rU :=
 b7 (E:=DZ) (Hs:=ON) VD aR aU (aL rfl) 8 ⟨_,_,Tryz.func78,rfl⟩ fun x r h1 h2=>by
  rw[RH]
  exact h x r h1 h2
theorem ADR:aN Tryz.prog 78 rU:=AFF fun l r h hb=>by
 obtain ⟨h1,rfl⟩:=nS h
 rw[Bool.and_eq_true,List.all_eq_true] at h1
 exact vC (r:=aM) rfl (b:=488) (s:=[(true,aM)]) (G:=xG) (A:=fun y=>[aF true aM y]) (W:=fun z=>[Sy.enc aM z]) (Q:=fun q=>T.sl false (List.map aM.enc q)=T.sl false (List.map aM.enc l)) (y0:=fun y=>y)
  h1.1 (fun y hy=>(AEI ..).trans (l6 _ (h1.2 y hy))) (fun y=>⟨_,rfl,jB (r:=aM) y rfl⟩) rfl
def p8 (a0:List cR):List T:=[T.sl false (List.map bQ.enc a0),T.fn 67 [] []]
noncomputable def RB:Env:=Env.of [(67,.pure xH)]
def AHC:FuncId→Hint:=bV 66 [(3,.inv [.val 10 false (.int .i64),.own 5 4 bQ])] (fun _=>aX)
theorem AKC:aQ Tryz.prog RB:=.cons AUU (.nil _)
def AHA(a0:List cR)(R:T→Prop):Prop:=a7 (Int×List cR×PUnit) (fun X0 s1=>aD (decide (s1.1<(↑(List.map bQ.enc a0).length:Int))) (aS bQ (List.map bQ.enc a0) s1.1 fun (y2:cR)=>aI [(true,bQ)] (xH [aF true bQ y2]) fun (y3:cR)=>bN (decide (((List.map bQ.enc s1.2.1).length+1)*56≤140737488355328) && decide ((List.map bQ.enc s1.2.1).length+1≤140737488355328)) (bL bQ (List.map bQ.enc s1.2.1 ++ [[T.v (.string y3.1),T.v (.int .i64 y3.2.1), T.v (.int .i64 y3.2.2.1), T.sl false (List.map BH5.enc y3.2.2.2)]]) fun (y4:List cR)=>X0 (IntKind.i64.wrap (s1.1+1),y4,()))) (R (T.sl false (List.map bQ.enc s1.2.1)))) (0,[],())
theorem ACF ( a0 R):dH bR Tryz.prog RB AHC 8 66 (p8 a0) R=AHA a0 R:=by kernel_rfl
def NG (x:List cR):Option T:=idK (eB 56 x.length&&x.all fun y=>eB 8 y.2.2.2.length) (.sl false (List.map bQ.enc x))
theorem U7 (x y:List cR) (h:p8 x=p8 y):x=y:=by
 unfold p8 at h
 simp only[List.cons.injEq,T.sl.injEq,and_true,true_and] at h
 exact map_inj (Sy.cY bQ) h
noncomputable def BW:List T→Option (T):=gA (fun (x:List cR)=>p8 x) NG
theorem AEG (a0:List cR):BW (p8 a0)=NG a0:=dS (A:=(fun (x:List cR)=>p8 x)) U7 a0
theorem AXU (h:∀ (a0:List cR) (r:T),NG a0=some r→(∀ t∈p8 a0,Bd t)→AHA a0 (fun y=>y=r)):aN Tryz.prog 66 BW :=
 b7 (E:=RB) (Hs:=AHC) AKC aR aU (aL rfl) 8 ⟨_,_,Tryz.func66,rfl⟩ fun x r h1 h2=>by
  rw[ACF]
  exact h x r h1 h2
theorem AUR:aN Tryz.prog 66 BW:=AXU fun l r h hb=>by
 obtain ⟨h1,rfl⟩:=nS h
 rw[Bool.and_eq_true,List.all_eq_true] at h1
 exact vC (r:=bQ) rfl (b:=56) (s:=[(true,bQ)]) (G:=xH) (A:=fun y=>[aF true bQ y]) (W:=fun z=>[Sy.enc bQ z]) (Q:=fun q=>T.sl false (List.map bQ.enc q)=T.sl false (List.map bQ.enc l)) (y0:=fun y=>y)
  h1.1 (fun y hy=>(AEJ ..).trans (l6 _ (h1.2 y hy))) (fun y=>⟨_,rfl,jB (r:=bQ) y rfl⟩) rfl
end Go.Pv
namespace Go.Pv
open Go Go.Proofs
def A56 (d:aB):Bool:=(QE d&&OE d)&&(eB 40 d.2.1.length&&(eB 72 d.2.2.2.1.length&&(eB 40 d.2.2.2.2.2.length&&(eB 208 d.2.2.1.length&&eB 88 d.2.2.2.2.1.length))))
noncomputable def APN:Env:=Env.of [(69,.pure BU),(70,.pure BV),(71,.pure BT),(72,.pure rW),(74,.pure rV)]
def ASP:FuncId→Hint:=fun _=>aX
theorem ABJ:aQ Tryz.prog APN:=.cons AME (.cons AMF (.cons AMD (.cons ADT (.cons ADS (.nil _)))))
def BIE(a0:aB):List (List T):=List.map aK.enc a0.2.2.1
def BIM(a0:aB):List (List T):=List.map aP.enc a0.2.2.2.2.2
def BIN(a0:aB):List (List T):=List.map aE.enc a0.2.2.2.2.1
def BIO(a0:aB):List (List T):=List.map aY.enc a0.2.2.2.1
def BIP(a0:aB):List (List T):=List.map aV.enc a0.2.1
def JB(a0:aB)(R:T→Prop):Prop:=aI [(false,aV.li)] (BU [T.sl false (BIP a0)]) fun (y0:List dC)=>aI [(false,aY.li)] (BV [T.sl false (BIO a0)]) fun (y1:List dJ)=>aI [(false,aP.li)] (BT [T.sl false (BIM a0)]) fun (y2:List b8)=>aI [(false,aK.li)] (rW [T.sl false (BIE a0),T.fn 73 [] []]) fun (y3:List a8)=>aI [(false,aE.li)] (rV [T.sl false (BIN a0),T.fn 75 [] []]) fun (y4:List aW)=>R ((aF true aC (a0.1,y0,y3,y1,y4,y2)))
abbrev MM:Sh:=[(true,aC)]
def xV (x:aB):Option T:=idK (A56 x) (aF true aC x)
noncomputable def vQ:List T→Option T:=gS MM xV
theorem XS {a0}:vQ [aF true aC a0]=xV (a0):=bC (s:=MM) rfl (a0) rfl
theorem AN1:rM Tryz.prog 28 vQ xV (b9 MM) JB:=gQ (a1:=(true,aC)) (sp:=xV) (F:=JB) (Hs:=ASP) (f:=28) (k:=8) ABJ aR aU (aL rfl) ⟨_,_,Tryz.func28,rfl⟩ rfl fun _ _=>by kernel_rfl
theorem AMG:aN Tryz.prog 28 vQ:=AN1 fun d r h hb=>by
 obtain ⟨h1,rfl⟩:=nS h
 unfold A56 at h1
 simp only[Bool.and_eq_true] at h1
 obtain ⟨⟨hD,hK⟩,h1,h2,h3,h4,h5⟩:=h1
 unfold JB BIP BIO BIN BIM BIE
 refine aG (s:=[(false,aV.li)]) (y:=d.2.1) (XQ.trans (tV h1)) ?_
 refine aG (s:=[(false,aY.li)]) (y:=d.2.2.2.1) (XR.trans (tV h2)) ?_
 refine aG (s:=[(false,aP.li)]) (y:=d.2.2.2.2.2) (XP.trans (tV h3)) ?_
 refine aG (s:=[(false,aK.li)]) (y:=d.2.2.1) ((SW _).trans (l6 _ (by rw[h4,Bool.true_and];exact hD))) ?_
 refine aG (s:=[(false,aE.li)]) (y:=d.2.2.2.2.1) ((SV _).trans (l6 _ (by rw[h5,Bool.true_and];exact hK))) ?_
 rfl
def BDY (o:cG):Bool:=eB 488 o.2.length&&o.2.all fun y=>eK (cW y)&&dY (gY y)
noncomputable def APP:Env:=Env.of [(78,.pure rU)]
def ASR:FuncId→Hint:=fun _=>aX
theorem ABL:aQ Tryz.prog APP:=.cons ADR (.nil _)
def JD(a0:cG)(R:T→Prop):Prop:=aI [(false,aM.li)] (rU [T.sl false (List.map aM.enc a0.2),T.fn 79 [] []]) fun (y0:List aZ)=>R (T.agg [T.v (.string a0.1),T.sl false (List.map aM.enc y0)])
abbrev MO:Sh:=[(true,bA)]
def xX (x:cG):Option T:=idK (BDY x) (aF true bA x)
noncomputable def vS:List T→Option T:=gS MO xX
theorem XU {a0}:vS [aF true bA a0]=xX (a0):=bC (s:=MO) rfl (a0) rfl
theorem AN3:rM Tryz.prog 32 vS xX (b9 MO) JD:=gQ (a1:=(true,bA)) (sp:=xX) (F:=JD) (Hs:=ASR) (f:=32) (k:=8) ABL aR aU (aL rfl) ⟨_,_,Tryz.func32,rfl⟩ rfl fun _ _=>by kernel_rfl
theorem AMI:aN Tryz.prog 32 vS:=AN3 fun o r h hb=>by
 obtain ⟨h1,rfl⟩:=nS h
 unfold JD
 refine aG (s:=[(false,aM.li)]) (y:=o.2) ((SU _).trans (l6 _ h1)) ?_
 rfl
def A57 (m:aH):Bool:=eB 40 m.2.length&&(eB 56 m.1.length&&m.1.all fun y=>eB 8 y.2.2.2.length)
noncomputable def APO:Env:=Env.of [(65,.pure H7),(66,.pure BW)]
def ASQ:FuncId→Hint:=fun _=>aX
theorem ABK:aQ Tryz.prog APO:=.cons AUQ (.cons AUR (.nil _))
def JC(a0:aH)(R:T→Prop):Prop:=aI [(false,bH.li)] (H7 [T.sl false (List.map bH.enc a0.2)]) fun (y0:List cA)=>aI [(false,bQ.li)] (BW [T.sl false (List.map bQ.enc a0.1),T.fn 67 [] []]) fun (y1:List cR)=>R (T.agg [T.sl false (List.map bQ.enc y1),T.sl false (List.map bH.enc y0)])
abbrev MN:Sh:=[(true,aJ)]
def xW (x:aH):Option T:=idK (A57 x) (aF true aJ x)
noncomputable def vR:List T→Option T:=gS MN xW
theorem XT {a0}:vR [aF true aJ a0]=xW (a0):=bC (s:=MN) rfl (a0) rfl
theorem AN2:rM Tryz.prog 27 vR xW (b9 MN) JC:=gQ (a1:=(true,aJ)) (sp:=xW) (F:=JC) (Hs:=ASQ) (f:=27) (k:=8) ABK aR aU (aL rfl) ⟨_,_,Tryz.func27,rfl⟩ rfl fun _ _=>by kernel_rfl
theorem AMH:aN Tryz.prog 27 vR:=AN2 fun m r h hb=>by
 obtain ⟨h1,rfl⟩:=nS h
 unfold A57 at h1
 simp only[Bool.and_eq_true] at h1
 unfold JC
 refine aG (s:=[(false,bH.li)]) (y:=m.2) (AEF.trans (tV h1.1)) ?_
 refine aG (s:=[(false,bQ.li)]) (y:=m.1) ((AEG _).trans (l6 _ (by rw[h1.2.1,h1.2.2];rfl))) ?_
 rfl
noncomputable def PK:List T→Option T:=gD vQ
theorem ADU:aN Tryz.prog 28 PK:=AMG.deep
noncomputable def PL:List T→Option T:=gD vS
theorem ADW:aN Tryz.prog 32 PL:=AMI.deep
noncomputable def EY:List T→Option T:=gD vR
theorem ADV:aN Tryz.prog 27 EY:=AMH.deep
end Go.Pv
namespace Go.Pv
open Go Go.Proofs
noncomputable def AG:List D→(Nat→Option a6)→Nat→Option T:=match FV Tryz.prog 4 (fun _=>false) (Env.of []) 1 17 with
 | some (.read g)=>g
 | _=>fun _ _ _=>none
theorem XD:o3 Tryz.prog 17 AG:=by
 obtain ⟨fn,c,h1⟩:∃ fn c,Tryz.prog.funcs[17]? = some fn∧fn.body=some c:=⟨_,_,Tryz.func17,rfl⟩
 obtain ⟨g,hg⟩:=FW (P:=Tryz.prog) (N:=4) (hp:=fun _=>false) (B:=Env.of []) (k:=0) rfl h1.1 h1.2 rfl
 unfold AG
 rw[hg]
 exact TW aR aU 4 (fun _=>false) (.nil _) 1 _ _ hg
end Go.Pv
namespace Go.Pv
open Go Go.Proofs
theorem W6:eH Tryz.prog 65 (nB 4 40):=iQ aR aU ⟨_,_,Tryz.func65,rfl⟩ ⟨fun R=>by kernel_rfl,fun fl R=>by kernel_rfl,fun fl a rows R=>by kernel_rfl⟩
theorem W4:eH Tryz.prog 68 (nB 1 8):=iQ aR aU ⟨_,_,Tryz.func68,rfl⟩ ⟨fun R=>by kernel_rfl,fun fl R=>by kernel_rfl,fun fl a rows R=>by kernel_rfl⟩
theorem O5:eH Tryz.prog 69 (nB 3 40):=iQ aR aU ⟨_,_,Tryz.func69,rfl⟩ ⟨fun R=>by kernel_rfl,fun fl R=>by kernel_rfl,fun fl a rows R=>by kernel_rfl⟩
theorem O8:eH Tryz.prog 70 (nB 6 72):=iQ aR aU ⟨_,_,Tryz.func70,rfl⟩ ⟨fun R=>by kernel_rfl,fun fl R=>by kernel_rfl,fun fl a rows R=>by kernel_rfl⟩
theorem O4:eH Tryz.prog 71 (nB 3 40):=iQ aR aU ⟨_,_,Tryz.func71,rfl⟩ ⟨fun R=>by kernel_rfl,fun fl R=>by kernel_rfl,fun fl a rows R=>by kernel_rfl⟩
theorem AHX:eH Tryz.prog 111 (nB 2 16):=iQ aR aU ⟨_,_,Tryz.func111,rfl⟩ ⟨fun R=>by kernel_rfl,fun fl R=>by kernel_rfl,fun fl a rows R=>by kernel_rfl⟩
theorem W5:eH Tryz.prog 157 (nB 1 24):=iQ aR aU ⟨_,_,Tryz.func157,rfl⟩ ⟨fun R=>by kernel_rfl,fun fl R=>by kernel_rfl,fun fl a rows R=>by kernel_rfl⟩
theorem O7:eH Tryz.prog 158 (nB 18 208):=iQ aR aU ⟨_,_,Tryz.func158,rfl⟩ ⟨fun R=>by kernel_rfl,fun fl R=>by kernel_rfl,fun fl a rows R=>by kernel_rfl⟩
theorem O6:eH Tryz.prog 159 (nB 5 88):=iQ aR aU ⟨_,_,Tryz.func159,rfl⟩ ⟨fun R=>by kernel_rfl,fun fl R=>by kernel_rfl,fun fl a rows R=>by kernel_rfl⟩
theorem W7:eH Tryz.prog 113 (nB 1 16):=iQ aR aU ⟨_,_,Tryz.func113,rfl⟩ ⟨fun R=>by kernel_rfl,fun fl R=>by kernel_rfl,fun fl a rows R=>by kernel_rfl⟩
def AH8:FuncId→Bool:=fun f=>[135,58,105,120,230,237].contains f
noncomputable def AW1:Env:=Env.of [(116,.pure q9),(65,.fresh (nB 4 40)),(68,.fresh (nB 1 8)),(69,.fresh (nB 3 40)),(70,.fresh (nB 6 72)),(71,.fresh (nB 3 40)),(111,.fresh (nB 2 16)),(157,.fresh (nB 1 24)),(158,.fresh (nB 18 208)),(159,.fresh (nB 5 88)),(113,.fresh (nB 1 16)),(5000000000+28,.mark)]
theorem ANN:aQ Tryz.prog AW1:=aQ.cons (x:=.pure q9) vM (aQ.cons (x:=.fresh (nB 4 40)) W6 (aQ.cons (x:=.fresh (nB 1 8)) W4 (aQ.cons (x:=.fresh (nB 3 40)) O5 (aQ.cons (x:=.fresh (nB 6 72)) O8 (aQ.cons (x:=.fresh (nB 3 40)) O4 (aQ.cons (x:=.fresh (nB 2 16)) AHX (aQ.cons (x:=.fresh (nB 1 24)) W5 (aQ.cons (x:=.fresh (nB 18 208)) O7 (aQ.cons (x:=.fresh (nB 5 88)) O6 (aQ.cons (x:=.fresh (nB 1 16)) W7 (aQ.cons (x:=.mark) trivial (aQ.nil _))))))))))))
noncomputable def gEd:List T→Option T:=AO0 Tryz.prog 400 AH8 AW1 40 83
theorem A8F:aN Tryz.prog 83 gEd:=MI aR aU 400 AH8 ANN 40 (FW (k:=39) (fn:=_) (c:=_) (by kernel_rfl) Tryz.func83 rfl (by kernel_rfl))
noncomputable def AW0:Env:=Env.of [(116,.pure q9),(83,.pure gEd)]
theorem ANM:aQ Tryz.prog AW0:=aQ.cons (x:=.pure q9) vM (aQ.cons (x:=.pure gEd) A8F (aQ.nil _))
noncomputable def gAp:List T→Option T:=AO0 Tryz.prog 400 AH8 AW0 40 18
theorem A8E:aN Tryz.prog 18 gAp:=MI aR aU 400 AH8 ANM 40 (FW (k:=39) (fn:=_) (c:=_) (by kernel_rfl) Tryz.func18 rfl (by kernel_rfl))
def A9A:FuncId→Bool:=fun f=>[12,10,17,13,29,9,135,58,105,19,38,41,44,47,51,90,121,52].contains f
noncomputable def AIC:Env:=Env.of [(116,.pure q9),(18,.pure gAp),(65,.fresh (nB 4 40)),(68,.fresh (nB 1 8)),(69,.fresh (nB 3 40)),(70,.fresh (nB 6 72)),(71,.fresh (nB 3 40)),(111,.fresh (nB 2 16)),(157,.fresh (nB 1 24)),(158,.fresh (nB 18 208)),(159,.fresh (nB 5 88)),(113,.fresh (nB 1 16))]
theorem AE2:aQ Tryz.prog AIC:=aQ.cons (x:=.pure q9) vM (aQ.cons (x:=.pure gAp) A8E (aQ.cons (x:=.fresh (nB 4 40)) W6 (aQ.cons (x:=.fresh (nB 1 8)) W4 (aQ.cons (x:=.fresh (nB 3 40)) O5 (aQ.cons (x:=.fresh (nB 6 72)) O8 (aQ.cons (x:=.fresh (nB 3 40)) O4 (aQ.cons (x:=.fresh (nB 2 16)) AHX (aQ.cons (x:=.fresh (nB 1 24)) W5 (aQ.cons (x:=.fresh (nB 18 208)) O7 (aQ.cons (x:=.fresh (nB 5 88)) O6 (aQ.cons (x:=.fresh (nB 1 16)) W7 (aQ.nil _))))))))))))
def BDG:List T→Option T:=fun args=>match args with | []=>some (.v (.bool true))|_=>none
def rR:List T→Option T:=BDG
theorem ADQ:aN Tryz.prog 7 rR :=
 AMO aR aU 400 A9A (B:=AIC) AE2 40 (by kernel_rfl)
end Go.Pv
namespace Go.Pv
open Go Go.Proofs
section
variable {α : Type} {af : α → α → Bool} {p q : α → Bool} {f g : α → α} {l : List α} {x y z : α}
structure Ord (af:α→α→Bool):Prop where
 trans:∀ {a b c},af c b=true→af b a=true→af c a=true
 irr:∀ a,af a a=false
end
end Go.Pv
namespace Go.Pv
open Go Go.Proofs
theorem ALQ {d:aB} {m:aH} (hc:gK d m=0):B9 d=true:=by
 have hf:lA d=0:=by
  unfold gK at hc
  split at hc
  ·exact absurd hc ‹_›
  split at hc
  ·cases hc
  split at hc
  ·exact absurd hc ‹_›
  rename_i h3
  exact Classical.byContradiction h3
 unfold lA at hf
 split at hf
 ·cases hf
 split at hf
 ·cases hf
 rename_i h2
 simpa using h2
section
variable {α : Type} {l : List (ByteArray × α)}
end
structure BEY (d:aB) (m:aH) (x y:aZ):Prop where
 a:APD d m x
 b:APD d m y
 c:APD (uP d x) m y
 e:APD (uP d y) m x
section
variable {d : aB} {m : aH} {x y : aZ}
def turns (x:aZ):Prop:=x.1=5∨x.1=6
end
end Go.Pv
namespace Go.Pv
open Go Go.Proofs Go.RowKit Go.Sort Go.Shelf
def toL (b:ByteArray):List UInt8:=b.data.toList
def ofL (a:List UInt8):ByteArray:=⟨a.toArray⟩
def AZ5 (q:List (List UInt8)→List (List UInt8)) (l:List ByteArray):List ByteArray:=(q (l.map toL)).map ofL
def AZX (l:List (List UInt8)):List (List UInt8):=l.mergeSort fun x y=>decide (x≤y)
def A7V (x:List UInt8):Bool:=x.isEmpty
def BDB (l:List (List UInt8)):List (List UInt8):=l.filter fun x=>!A7V x
end Go.Pv
namespace Go.Pv
open Go Go.Proofs
def BDU (l:List ByteArray):List ByteArray:=AZ5 BDB (AZ5 Lib.compact (AZ5 AZX l))
def A9Q (x:aZ):List ByteArray :=
 if x.1=1 then [x.2.2.2.1.1,x.2.2.2.1.2.2]
 else if x.1=2∨x.1=4∨x.1=8∨x.1=10 then [x.2.1]
 else if x.1=3∨x.1=5 then [x.2.2.2.2.1.1,x.2.2.2.2.1.2.2.2.1]
 else if x.1=6 then [x.2.1,x.2.2.1]
 else if x.1=7 then [x.2.2.2.2.2.1.1,x.2.2.2.2.2.1.2.1,x.2.2.2.2.2.1.2.2.1]
 else if x.1=9 then ([x.2.2.2.2.2.2.1.1,x.2.2.2.2.2.2.1.2.1]++x.2.2.2.2.2.2.1.2.2.1)++x.2.2.2.2.2.2.1.2.2.2.2
 else if x.1=11∨x.1=12 then [x.2.2.2.2.2.2.2.2.1,x.2.2.2.2.2.2.2.2.2]
 else []
end Go.Pv
namespace Go.Pv
open Go Go.Proofs Go.Lib
end Go.Pv
namespace Go.Pv
open Go Go.Proofs
end Go.Pv
namespace Go.Pv
open Go Go.RowKit
section
variable {α : Type}
theorem PZ {k:ByteArray}:∀ {es:List (ByteArray×α)},e6 es k=none→k∉es.map fun e=>e.1
 | [],_=>by simp
 | e::es,h=>by
  unfold e6 at h
  split at h
  ·cases h
  ·rename_i hne
   have:=PZ h
   simp only[List.map_cons,List.mem_cons,not_or]
   exact ⟨fun h'=>hne h'.symm,this⟩
theorem P0 {k s:ByteArray} {x:α}:∀ {es:List (ByteArray×α)},e6 (es++[(k,x)]) s=match e6 es s with|some y=>some y|none=>if k=s then some x else none
 | []=>by simp[e6]
 | e::es=>by
  simp only[List.cons_append,e6]
  split
  ·rfl
  ·exact P0
def uZ (id:α→ByteArray) (l:List α) (k:Nat) (es:List (ByteArray×α)):Prop :=
 (∀ s,e6 es s=(l.take k).find? fun x=>decide (id x=s))∧(es.map fun e=>e.1).Nodup∧es.length≤k
theorem uZ.zero (id:α→ByteArray) (l:List α):uZ id l 0 []:=⟨by simp[e6],by simp,by simp⟩
theorem uZ.no {id:α→ByteArray} {l:List α} {k:Nat} {es:List (ByteArray×α)} (h:uZ id l k es) (hk:k<l.length) {y:α} (hy:e6 es (id l[k])=some y):uZ id l (k+1) es:=by
 refine ⟨fun s=>?_,h.2.1,by have:=h.2.2;omega⟩
 rw[List.take_succ_eq_append_getElem hk,List.find?_append,←h.1]
 cases hs:e6 es s with
 | some z=>rfl
 | none =>
  rw[Option.none_or,List.find?_cons]
  split
  ·rename_i he
   rw[of_decide_eq_true he,hs] at hy;cases hy
  ·rfl
theorem uZ.yes {id:α→ByteArray} {l:List α} {k:Nat} {es:List (ByteArray×α)} (h:uZ id l k es) (hk:k<l.length) (hy:e6 es (id l[k])=none):uZ id l (k+1) (es++[(id l[k],l[k])]):=by
 refine ⟨fun s=>?_,?_,by have:=h.2.2;simp;omega⟩
 ·rw[List.take_succ_eq_append_getElem hk,List.find?_append,←h.1,P0]
  cases hs:e6 es s with
  | some z=>rfl
  | none =>
   rw[Option.none_or,List.find?_cons]
   by_cases he:id l[k]=s
   ·simp[he]
   ·simp[he]
 ·rw[List.map_append,List.nodup_append]
  refine ⟨h.2.1,by simp,fun a ha b hb e=>?_⟩
  simp only[List.map_cons,List.map_nil,List.mem_singleton] at hb
  subst hb e
  exact PZ hy ha
end
section
variable {β : Type} {lt : β → β → Prop}
structure A16 (lt:β→β→Prop):Prop where
 irr:∀ a,¬ lt a a
 tr:∀ {a b c},lt a b→lt b c→lt a c
 tot:∀ {a b},¬ lt a b→¬ lt b a→a=b
def HN (lt:β→β→Prop) (begun:Bool) (last s:β):Prop:=begun=false∨lt last s
def nO (lt:β→β→Prop) (all:List β) (begun:Bool) (last:β) (k:Nat) (nx:β) (sm:Bool):Prop :=
 (sm=false→∀ s∈all.take k,¬ HN lt begun last s)∧(sm=true→nx∈all∧HN lt begun last nx∧∀ s∈all.take k,HN lt begun last s→¬ lt s nx)
theorem nO.zero (all:List β) (begun:Bool) (last nx:β):nO lt all begun last 0 nx false:=⟨by simp,by simp⟩
theorem nO.take (ho:A16 lt) {all:List β} {begun:Bool} {last:β} {k:Nat} {nx:β} {sm:Bool} (h:nO lt all begun last k nx sm) (hk:k<all.length)
  (he:HN lt begun last all[k]) (hc:sm=false∨lt all[k] nx):nO lt all begun last (k+1) all[k] true:=by
 refine ⟨by simp,fun _=>⟨List.getElem_mem hk,he,fun s hs hes=>?_⟩⟩
 rw[List.take_succ_eq_append_getElem hk,List.mem_append] at hs
 rcases hs with hs|hs
 ·cases sm with
  | false=>exact absurd hes (h.1 rfl s hs)
  | true =>
   have hlt:=hc.resolve_left (by simp)
   exact fun h'=>(h.2 rfl).2.2 s hs hes (ho.tr h' hlt)
 ·rw[List.mem_singleton.1 hs];exact ho.irr _
theorem nO.skip {all:List β} {begun:Bool} {last:β} {k:Nat} {nx:β} {sm:Bool} (h:nO lt all begun last k nx sm) (hk:k<all.length)
  (hc:¬ HN lt begun last all[k]∨(sm=true∧¬ lt all[k] nx)):nO lt all begun last (k+1) nx sm:=by
 refine ⟨fun e s hs=>?_,fun e=>⟨(h.2 e).1,(h.2 e).2.1,fun s hs hes=>?_⟩⟩
 ·rw[List.take_succ_eq_append_getElem hk,List.mem_append] at hs
  rcases hs with hs|hs
  ·exact h.1 e s hs
  ·rw[List.mem_singleton.1 hs]
   rcases hc with hc|⟨hc,_⟩
   ·exact hc
   ·rw[hc] at e;cases e
 ·rw[List.take_succ_eq_append_getElem hk,List.mem_append] at hs
  rcases hs with hs|hs
  ·exact (h.2 e).2.2 s hs hes
  ·rw[List.mem_singleton.1 hs] at hes ⊢
   rcases hc with hc|⟨_,hc⟩
   ·exact absurd hes hc
   ·exact hc
def q7 (lt:β→β→Prop) (all:List β) (D:β→Prop) (out:List β) (begun:Bool) (last:β):Prop :=
 out.Pairwise lt∧∀ s,s∈out↔s∈all∧D s∧¬ HN lt begun last s
theorem q7.zero (all:List β) (D:β→Prop) (last:β):q7 lt all D [] false last:=⟨List.Pairwise.nil,fun s=>by simp[HN]⟩
theorem wJ (ho:A16 lt) {all:List β} {begun:Bool} {last nx:β} (h:nO lt all begun last all.length nx true) {s:β} (hs:s∈all):¬ HN lt true nx s↔¬ HN lt begun last s∨s=nx:=by
 have h2:=(h.2 rfl).2
 rw[List.take_length] at h2
 have e1:HN lt true nx s↔lt nx s:=by simp[HN]
 rw[e1]
 constructor
 ·intro hn
  by_cases he:HN lt begun last s
  ·exact .inr (ho.tot (h2.2 s hs he) hn)
  ·exact .inl he
 ·rintro (hn|rfl)
  ·intro hl
   refine hn ?_
   rcases h2.1 with h3|h3
   ·exact .inl h3
   ·exact .inr (ho.tr h3 hl)
  ·exact ho.irr _
theorem q7.skip (ho:A16 lt) {all:List β} {D:β→Prop} {out:List β} {begun:Bool} {last nx:β} (h:q7 lt all D out begun last) (hl:nO lt all begun last all.length nx true) (hd:¬ D nx):q7 lt all D out true nx:=by
 refine ⟨h.1,fun s=>?_⟩
 rw[h.2]
 constructor
 ·rintro ⟨h1,h2,h3⟩;exact ⟨h1,h2,(wJ ho hl h1).2 (.inl h3)⟩
 ·rintro ⟨h1,h2,h3⟩
  rcases (wJ ho hl h1).1 h3 with h3|rfl
  ·exact ⟨h1,h2,h3⟩
  ·exact absurd h2 hd
theorem q7.take (ho:A16 lt) {all:List β} {D:β→Prop} {out:List β} {begun:Bool} {last nx:β} (h:q7 lt all D out begun last) (hl:nO lt all begun last all.length nx true) (hd:D nx):q7 lt all D (out++[nx]) true nx:=by
 have hn:=hl.2 rfl
 refine ⟨List.pairwise_append.2 ⟨h.1,by simp,fun a ha b hb=>?_⟩,fun s=>?_⟩
 ·rw[List.mem_singleton.1 hb]
  have ha':=(h.2 a).1 ha
  refine Classical.byContradiction fun hlt=>?_
  have:¬ lt nx a:=fun h'=>ha'.2.2 (by
   rcases hn.2.1 with h3|h3
   ·exact .inl h3
   ·exact .inr (ho.tr h3 h'))
  exact ha'.2.2 (by rw[ho.tot hlt this];exact hn.2.1)
 ·rw[List.mem_append,h.2,List.mem_singleton]
  constructor
  ·rintro (⟨h1,h2,h3⟩|rfl)
   ·exact ⟨h1,h2,(wJ ho hl h1).2 (.inl h3)⟩
   ·exact ⟨hn.1,hd,(wJ ho hl hn.1).2 (.inr rfl)⟩
  ·rintro ⟨h1,h2,h3⟩
   rcases (wJ ho hl h1).1 h3 with h3|rfl
   ·exact .inl ⟨h1,h2,h3⟩
   ·exact .inr rfl
theorem q7.done {all:List β} {D:β→Prop} {out:List β} {begun:Bool} {last nx:β} (h:q7 lt all D out begun last) (hl:nO lt all begun last all.length nx false):out.Pairwise lt∧∀ s,s∈out↔s∈all∧D s:=by
 refine ⟨h.1,fun s=>?_⟩
 rw[h.2]
 have:=hl.1 rfl
 rw[List.take_length] at this
 exact ⟨fun ⟨a,b,_⟩=>⟨a,b⟩,fun ⟨a,b⟩=>⟨a,b,this s a⟩⟩
open Classical in
open Classical in
end
end Go.Pv
namespace Go.Pv
open Go Go.Proofs
def BEO (l:List ByteArray):List ByteArray:=AZ5 Lib.compact (AZ5 AZX l)
end Go.Pv
namespace Go.Pv
open Go Go.Proofs
end Go.Pv
namespace Go.Pv
open Go Go.Proofs
end Go.Pv
namespace Go.Pv
open Go Go.Proofs
def BEC (l:List aZ):List ByteArray:=BEO (l.flatMap fun e=>BDU (A9Q e))
end Go.Pv
namespace Go.Pv
open Go Go.Proofs
section
variable {α : Type} {l : List (ByteArray × α)} {id j : ByteArray}
end
section
variable {d : aB} {m : aH} {x : aZ} {id : ByteArray}
end
variable {m : aH} {id : ByteArray}
end Go.Pv
namespace Go.Pv
open Go Go.Proofs
structure Val (d:aB) (m:aH):Prop where
 order:B9 d=true
 nodes:∀ n∈d.2.1,nZ d n=0
 up:Z3 d=false
 parts:∀ p∈d.2.2.1,fF d m p=0
 BEV:∀ s∈d.2.2.2.1,n9 d s=0
 BEU:(fY d d.2.2.2.2.1 0 [] []).1=0
 BET:∀ n∈d.2.2.2.2.2,sF d n=0
theorem BBG {d:aB} {m:aH} (hc:gK d m=0):Val d m:=by
 have ho:=ALQ hc
 unfold gK at hc
 split at hc
 ·exact absurd hc ‹_›
 split at hc
 ·cases hc
 split at hc
 ·exact absurd hc ‹_›
 split at hc
 ·exact absurd hc ‹_›
 rename_i h4
 split at hc
 ·exact absurd hc ‹_›
 rename_i h5
 split at hc
 ·exact absurd hc ‹_›
 rename_i h6
 split at hc
 ·exact absurd hc ‹_›
 rename_i h7
 have h4:gP d=0:=Classical.byContradiction h4
 have h5:iV d m=0:=Classical.byContradiction h5
 have h6:bP (n9 d) d.2.2.2.1=0:=Classical.byContradiction h6
 have h7:fN d=0:=Classical.byContradiction h7
 have n1:bP (nZ d) d.2.1=0∧Z3 d=false:=by
  unfold gP at h4
  split at h4
  ·rename_i g
   refine ⟨g,?_⟩
   split at h4
   ·cases h4
   ·rename_i g2;simpa using g2
  ·rename_i g;exact absurd h4 g
 have p1:bP (fF d m) d.2.2.1=0:=by
  unfold iV at h5
  split at h5
  ·assumption
  ·exact h5
 have k1:(fY d d.2.2.2.2.1 0 [] []).1=0:=by
  unfold fN at h7
  split at h7
  ·assumption
  ·exact h7
 exact ⟨ho,kZ n1.1,n1.2,kZ p1,kZ h6,k1,kZ hc⟩
section
variable {d : aB} {m : aH} {x : aZ}
end
end Go.Pv
namespace Go.Pv
open Go Go.Proofs
section
variable {α : Type}
end
section
variable {d : aB} {m : aH} {x : aZ} {i : ByteArray}
end
section
variable {m : aH} {a b : List aZ} {d : aB}
structure BEX (m:aH) (d:aB) (a b:List aZ):Prop where
 chk:gK d m=0
 a1:(mF m d a).2=0
 b1:(mF m d b).2=0
 a2:(mF m (mF m d a).1 b).2=0
 b2:(mF m (mF m d b).1 a).2=0
 apart:∀ s,s∈BEC a→s∉BEC b
end
end Go.Pv
namespace Go.Pv
open Go Go.Proofs
def plP (p:a8):a8:=(p.1,1,p.2.2)
def A8 (d:aB):aB:=(d.1,d.2.1,d.2.2.1.map plP,d.2.2.2)
def AHI (b:Int) (d:aB):Prop:=∀ p∈d.2.2.1,1≤p.2.1∧p.2.1≤b
section
variable {m : aH} {d : aB}
theorem AAD {p:a8} (h:1≤p.2.1∧p.2.1≤1000):mD (plP p) m=mD p m:=by
 unfold mD
 by_cases hi:pF p.1=false∨pF (j2 p)=false
 ·rw[if_pos hi];exact if_pos hi
 rw[if_neg hi]
 refine (if_neg hi).trans ?_
 rw[if_neg (c:=¬ (1≤p.2.1∧p.2.1≤1000)) (fun g=>g h)]
 have k:1≤(plP p).2.1∧(plP p).2.1≤1000:=⟨by show (1:Int)≤1;omega,by show (1:Int)≤1000;omega⟩
 exact if_neg (fun g=>g k)
theorem AXG {p:a8} (h:1≤p.2.1∧p.2.1≤1000):sE (plP p) m=sE p m:=by
 unfold sE
 rw[AAD h];rfl
theorem A9C (l:List a8):ids (l.map plP)=ids l:=by
 unfold ids;rw[List.map_map];rfl
theorem AHW (i:ByteArray):∀ l:List a8,(l.map plP).find? (fun s=>decide (s.1=i))=(l.find? fun s=>decide (s.1=i)).map plP
 | []=>rfl
 | z::l=>by
  rw[List.map_cons,List.find?_cons,List.find?_cons,AHW i l]
  show (match decide (z.1=i) with|true=>_|false=>_)=_
  cases decide (z.1=i)<;>rfl
theorem QL (i:ByteArray):partOf (A8 d) i=(partOf d i).map plP:=AHW i d.2.2.1
theorem P4 (i:ByteArray):(partOf (A8 d) i).isNone=(partOf d i).isNone:=by
 rw[QL];cases partOf d i<;>rfl
theorem AZ3:∀ (k:Nat) (i:ByteArray) (l:List ByteArray),upF (A8 d) k i l=upF d k i l
 | 0,_,_=>rfl
 | k+1,i,l=>by
  unfold upF
  show (match iC d i with|none=>_|some x=>_)=_
  cases iC d i with
  | none=>rfl
  | some x =>
   dsimp only
   rw[AZ3 k]
theorem AZ4 (i:ByteArray):up (A8 d) i=up d i:=AZ3 65 i []
theorem AU7:lA (A8 d)=lA d:=by
 have e:ids (A8 d).2.2.1=ids d.2.2.1:=A9C _
 have e2:(A8 d).2.2.1.length=d.2.2.1.length:=List.length_map ..
 unfold lA kL B9 ADL
 rw[e,e2];rfl
theorem K3 {α β:Type} {f:β→Int} {g:α→Int} {h:α→β}:∀ {l:List α},(∀ a∈l,f (h a)=g a)→bP f (l.map h)=bP g l
 | [],_=>rfl
 | a::l,e=>by
  rw[List.map_cons,bP,bP,e a List.mem_cons_self,K3 fun b hb=>e b (List.mem_cons_of_mem _ hb)]
theorem xB {α:Type} {f g:α→Int}:∀ {l:List α},(∀ a∈l,f a=g a)→bP f l=bP g l
 | [],_=>rfl
 | a::l,e=>by
  rw[bP,bP,e a List.mem_cons_self,xB fun b hb=>e b (List.mem_cons_of_mem _ hb)]
theorem ANX:gP (A8 d)=gP d:=by
 have e1:bP (nZ (A8 d)) (A8 d).2.1=bP (nZ d) d.2.1:=xB fun a _=>rfl
 have e2:Z3 (A8 d)=Z3 d:=by
  unfold Z3
  show (d.2.1.any fun n=>!(up (A8 d) n.1).2)=_
  simp only[AZ4]
 have e3:O1 (A8 d)=O1 d:=by
  unfold O1
  show (d.2.1.any fun n=>decide (8<(up (A8 d) n.1).1.length))=_
  simp only[AZ4]
 unfold gP
 rw[e1,e2,e3]
theorem Q1:∀ {l:List a8} {s:Int},(∀ p∈l,1≤p.2.1∧p.2.1≤1000)→pO m (l.map plP) s=pO m l s
 | [],_,_=>rfl
 | p::l,s,h=>by
  rw[List.map_cons,pO,pO,AXG (h p List.mem_cons_self),Q1 fun q hq=>h q (List.mem_cons_of_mem _ hq)]
theorem AOT (h:AHI 1000 d):iV (A8 d) m=iV d m:=by
 have e:bP (fF (A8 d) m) (A8 d).2.2.1=bP (fF d m) d.2.2.1:=K3 fun p hp=>by
  unfold fF
  rw[AAD (h p hp)];rfl
 unfold iV
 rw[e]
 show (if _ then pO m (d.2.2.1.map plP) 0 else _)=_
 rw[Q1 h]
theorem instE_pl {b:ByteArray}:∀ (l S:List ByteArray),instE (A8 d) b l S=instE d b l S
 | [],_=>rfl
 | i::l,S=>by
  rw[instE,instE,QL]
  cases partOf d i with
  | none=>rfl
  | some p =>
   dsimp only[Option.map]
   rw[AZ4,instE_pl l];rfl
theorem MG:∀ (l:List aW) (i:Int) (E:List aO) (S:List ByteArray),fY (A8 d) l i E S=fY d l i E S
 | [],_,_,_=>rfl
 | k::l,i,E,S=>by
  have e:∀ l E,EI (A8 d) k.1 i l E=EI d k.1 i l E:=fun l=>by
   induction l with
   | nil=>intro E;rfl
   | cons a l ih =>
    intro E
    rw[EI,EI]
    show (if a=k.1 then _ else match e6 (gX (ids d.2.2.2.2.1)) a with|none=>_|some j=>_)=_
    split
    ·rfl
    ·cases e6 (gX (ids d.2.2.2.2.1)) a with
     | none=>rfl
     | some j=>exact ih _
  rw[fY,fY,instE_pl,e,MG l];rfl
theorem AHO (h:AHI 1000 d):gK (A8 d) m=gK d m:=by
 have e1:bP (n9 (A8 d)) (A8 d).2.2.2.1=bP (n9 d) d.2.2.2.1:=xB fun s _=>by
  unfold n9;rw[P4,P4]
 have e2:fN (A8 d)=fN d:=by
  unfold fN
  rw[show fY (A8 d) (A8 d).2.2.2.2.1 0 [] []=fY d d.2.2.2.2.1 0 [] [] from MG _ _ _ _];rfl
 have e3:bP (sF (A8 d)) (A8 d).2.2.2.2.2=bP (sF d) d.2.2.2.2.2:=xB fun n _=>rfl
 unfold gK
 rw[AU7,ANX,AOT h,e1,e2,e3];rfl
theorem ATU (hc:gK d m=0):AHI 1000 d:=fun p hp=>by
 have h:=(BBG hc).parts p hp
 unfold fF at h
 split at h
 ·rename_i g
  unfold mD at g
  split at g
  ·cases g
  split at g
  ·cases g
  ·rename_i k;exact Classical.byContradiction k
 ·rename_i g;exact absurd h g
theorem ATV {y:aB} (hs:A8 y=A8 d) (hy:AHI 1000 y) (hc:gK d m=0):gK y m=0:=by
 rw[←AHO hy,hs,AHO (ATU hc)];exact hc
end
structure Rdy (d:aB) (x:aZ):Prop where
 kind:1≤x.1∧x.1≤12
 plain:x=cZ x
 rev:x.1=5→(cW x).2.1=0
 there:gF d x = !lM x
 node:x.1=5→j2 (found dB (partOf d (cW x).1)).1=j2 (cW x)
 free:pQ d x=false
section
variable {d y : aB} {m : aH} {x : aZ}
theorem Rdy.apply (k:Rdy d x) (hc:gK (uP d x) m=0):bT d m x=(uP d x,0):=by
 have kt:=k.there
 unfold bT
 rw[if_neg (fun h=>h k.kind),if_neg,if_neg,if_neg,if_neg (fun h=>h.2 (k.node h.1)),if_neg (by rw[k.free];decide),if_pos hc]
 ·rintro ⟨h1,h2⟩;rw[h1,h2] at kt;cases kt
 ·rintro ⟨h1,h2⟩;rw[h1,h2] at kt;cases kt
 ·rintro (h|h)
  ·rw[oC.2 k.plain] at h;cases h
  ·exact h.2 (k.rev h.1)
end
section
variable {α : Type} {l : List (ByteArray × α)} {i : ByteArray} {a : ByteArray × α}
end
section
variable {d y : aB} {m : aH} {x : aZ}
end
section
variable {m : aH}
end
end Go.Pv
namespace Go.Pv
section
variable {D O β : Type} (z : D) (ap : D → O → D × Int)
structure BCY (D O:Type) where
 base:D
 FQ:List O
 last:D
variable {z ap}
end
end Go.Pv
namespace Go.Pv
open Go Go.Proofs
def pR (r n:Int):a8:=(⟨#[80,49]⟩,r,4,⟨#[66,49]⟩,⟨#[]⟩,0,([],[]),⟨#[]⟩,0,n,(0,0,0),(0,0,0),0)
def dR (r n:Int):aB:=(⟨#[72]⟩,[(⟨#[66,49]⟩,1,⟨#[]⟩)],[pR r n],[],[],[])
def eR (n:Int):aZ:=(5,b6,b6,dW,pR 0 n,dX,noPack,iP)
theorem A2Q:∀ k:Fin 70,gK (dR 1 ((k.val:Int)+1)) ([],[])=0:=by decide +kernel
theorem ADE {r n:Int} (hr:1≤r∧r≤1000) (hn:1≤n∧n≤70):gK (dR r n) ([],[])=0:=by
 have h:=A2Q ⟨(n-1).toNat,by omega⟩
 rw[show (((⟨(n-1).toNat,by omega⟩:Fin 70).val:Int)+1)=n from by show ((n-1).toNat:Int)+1=n;omega] at h
 refine ATV (d:=dR 1 n) rfl (fun p hp=>?_) h
 rw[List.mem_singleton.1 hp];exact hr
theorem BA3 (r a n:Int):Rdy (dR r a) (eR n) where
 kind:=⟨by show (1:Int)≤5;decide,by show (5:Int)≤12;decide⟩
 plain:=rfl
 rev:=fun _=>rfl
 there:=rfl
 node:=fun _=>rfl
 free:=rfl
theorem A7P {r a n:Int} (hr:1≤r∧r≤1000):uP (dR r a) (eR n)=dR (r+1) n:=by
 have e:uP (dR r a) (eR n)=dR (IntKind.i64.wrap (r+1)) n:=rfl
 rw[e,bB _ (by omega) (by omega)]
theorem ALH {r a n:Int} (hr:1≤r∧r≤999) (hn:1≤n∧n≤70):bT (dR r a) ([],[]) (eR n)=(dR (r+1) n,0):=by
 have e:=A7P (r:=r) (a:=a) (n:=n) (by omega)
 rw[(BA3 r a n).apply (by rw[e];exact ADE (by omega) hn),e]
theorem A2O {r a n:Int} {i:ByteArray} (hi:pF i=true) (hr:1≤r∧r≤999) (ha:1≤a∧a≤70) (hn:1≤n∧n≤70):N4 (dR r a) ([],[]) (i,[eR n])=(dR (r+1) n,0):=by
 unfold N4
 rw[if_neg (by rw[hi];decide),if_neg (show ¬ (((i,[eR n]):cG).2.length:Int)=0 from (by decide:¬ (1:Int)=0)),if_neg (show ¬ 32<(((i,[eR n]):cG).2.length:Int) from (by decide:¬ (32:Int)<1)),if_neg (fun h=>h (ADE (by omega) ha))]
 show (if (bT (dR r a) ([],[]) (eR n)).2=0 then ((bT (dR r a) ([],[]) (eR n)).1,(0:Int)) else _)=_
 rw[ALH hr hn,if_pos rfl]
def idR (i:Nat):ByteArray:=⟨#[67,(97+i / 10).toUInt8,(48+i % 10).toUInt8]⟩
theorem A9B:∀ i:Fin 70,pF (idR i.val)=true:=by decide +kernel
theorem A3N:∀ i j:Fin 70,idR i.val=idR j.val→i=j:=by decide +kernel
def oR (i:Nat):cG:=(idR i,[eR ((i:Int)+1)])
def hR (k:Nat):BCY aB cG:=⟨dR 1 5,(List.range k).map oR,dR ((k:Int)+1) (if k=0 then 5 else (k:Int))⟩
theorem AWN {k i:Nat} (hk:k≤64) (hi:i<70):N4 (hR k).last ([],[]) (oR i)=(dR ((k:Int)+2) ((i:Int)+1),0):=by
 have e:(k:Int)+2=(k:Int)+1+1:=by omega
 rw[e]
 refine A2O (A9B ⟨i,hi⟩) (by omega) ?_ (by omega)
 split<;>omega
end Go.Pv
namespace Go.Pv
open Go Go.Proofs
theorem w7 {d:aB} {K:List dC→List a8→List dJ→List aW→List b8→Prop} (h:K d.2.1 d.2.2.1 d.2.2.2.1 d.2.2.2.2.1 d.2.2.2.2.2) :
  bL aV (List.map aV.enc d.2.1) fun a=>bL aK (List.map aK.enc d.2.2.1) fun b=>bL aY (List.map aY.enc d.2.2.2.1) fun c=>bL aE (List.map aE.enc d.2.2.2.2.1) fun e=>bL aP (List.map aP.enc d.2.2.2.2.2) fun f=>K a b c e f :=
 eJ (r:=aV) rfl rfl (eJ (r:=aK) rfl rfl (eJ (r:=aY) rfl rfl (eJ (r:=aE) rfl rfl (eJ (r:=aP) rfl rfl h))))
theorem A2S {l:List cG} {K:List cG→Prop} (h:K l):bL bA (List.map bA.enc l) K:=eJ (r:=bA) rfl rfl h
theorem A59 {l:List cG} {i k:Nat} {K:cG→Prop} (hi:i=k) (h:k<l.length) (hk:K l[k]):gZ bA (List.map bA.enc l) i 0 K :=
 ⟨_,l[k],by rw[hi];exact (sW (r:=bA)).2 (List.getElem?_eq_getElem h),Nat.le_refl _,rfl,hk⟩
theorem AYB:∀ {l:List cG},l.length≠0→A4R 2 (List.map bA.enc l)=true
 | [],h=>absurd rfl h
 | _::_,_=>rfl
theorem AWP {O:List cG} {i:ByteArray} {A:Int×PUnit→cG→Prop} {B:Prop} {n:Nat} (hN:(List.map bA.enc O).length=n) (hl:n≤1000) (hn:∀ o∈O,o.1≠i) (hB:B) :
  a7 (Int×PUnit) (fun X s=>aD (decide (s.1<(n:Int))) (aS bA (List.map bA.enc O) s.1 fun _=>gZ bA (List.map bA.enc O) (Int.toNat s.1) 0 fun y=>aD (decide (y.1=i)) (A s y) (X (IntKind.i64.wrap (s.1+1),()))) B) (0,()):=by
 rw[List.length_map] at hN
 subst hN
 refine bK O.length (fun k s=>s=((k:Int),())) rfl ?_
 rintro X k s hk rfl hX
 dsimp only
 refine bZ (fun h=>?_) fun _=>hB
 have hlt:k<O.length:=by omega
 rw[bD (r:=bA) hlt]
 refine A59 (Int.toNat_natCast k) hlt ?_
 rw[decide_eq_false (hn _ (List.getElem_mem hlt)),mM]
 exact hX _ hlt (by rw[bB _ (by omega) (by omega)];rfl)
theorem A2I {O:List cG} {n:Nat} {M:T} {f:Nat→aB} {bx:a6} {Bad:Int×aB×PUnit×PUnit→cG→aB×Int→Prop} {E:Int×aB×PUnit×PUnit→Prop} (hn:n≤O.length) (hl:O.length≤1000)
  (hf:∀ t (h:t<n),nR [aF true aC (f t),M,aF true bA (O[t]'(Nat.lt_of_lt_of_le h hn))]=some (Sh.enc [(true,aC),(false,.int .i64)] (f (t+1),(0:Int)))) (hE:E ((n:Int),f n,(),())) :
  a7 (Int×aB×PUnit×PUnit) (fun X s=>aD (decide (s.1<((n-0:Nat):Int))) (bN (decide (0≤s.1)&&decide (Int.toNat s.1<n-0)) (aS bA (List.map bA.enc O) ((0+Int.toNat s.1:Nat):Int) fun _ =>
   gZ bA (List.map bA.enc O) (0+Int.toNat s.1) 0 fun o=>aI [(true,aC),(false,.int .i64)] (nR [aF true aC s.2.1,M,aF true bA o]) fun y=>aD (!decide (y.2=0)) (Bad s o y)
    (bL aV (List.map aV.enc y.1.2.1) fun a=>bL aK (List.map aK.enc y.1.2.2.1) fun b=>bL aY (List.map aY.enc y.1.2.2.2.1) fun c=>bL aE (List.map aE.enc y.1.2.2.2.2.1) fun e=>bL aP (List.map aP.enc y.1.2.2.2.2.2) fun q =>
     eP bx bx (X (IntKind.i64.wrap (s.1+1),(y.1.1,a,b,c,e,q),(),())))))
   (E s)) (0,f 0,(),()):=by
 refine bK n (fun k s=>s=((k:Int),f k,(),())) rfl ?_
 rintro X k s hk rfl hX
 dsimp only
 refine bZ (fun h=>?_) fun h=>?_
 ·have hlt:k<n:=by omega
  have hO:k<O.length:=by omega
  refine ⟨by rw[decide_eq_true (by omega),decide_eq_true (by omega)];rfl,?_⟩
  rw[Int.toNat_natCast,Nat.zero_add,bD (r:=bA) hO]
  refine A59 rfl hO ?_
  refine aG (s:=[(true,aC),(false,.int .i64)]) (y:=(f (k+1),(0:Int))) (hf k hlt) ?_
  refine lI (fun h=>absurd rfl h) fun _=>?_
  refine w7 (d:=f (k+1)) ?_
  rw[cI]
  exact hX _ hlt (by rw[bB _ (by omega) (by omega)];rfl)
 ·have:k=n:=by omega
  subst this
  exact hE
noncomputable def mU:List T→Option T:=PK
theorem AUV:cF Tryz.prog 28 (BQ mU):=AH5 ADU
noncomputable def SX:List T→Option T:=PL
theorem AUW:cF Tryz.prog 32 (BQ SX):=AH5 ADW
noncomputable def AJ2:Env:=Env.of [(26,.pure SS),(27,.pure EY),(28,.AWL mU),(32,.AWL SX),(18,.pure nR),(17,.read AG),(7,.pure rR)]
def AK3:FuncId→Hint:=bV 4 [(5,.inv [.val 5 false (.int .i64),.box 7 (.pr .any (.pr .any (.pr aC (.pr .any (.pr .any (.pr .any (.pr .any (.pr .any (.pr .any .any))))))))),.GX 7 8 2 bA])] (bV 80 [(2,.inv [.val 8 false (.int .i64)])] (bV 10 [(6,.inv [.val 32 false (.int .i64),.box 11 aC,.fix 10])] (fun _=>aX)))
theorem VI:aQ Tryz.prog AJ2:=.cons AUP (.cons ADV (.cons AUV (.cons AUW (.cons A29 (.cons XD (.cons ADQ (.nil _)))))))
def BHZ:T:=T.v (Value.slice none 0 0)
def BH0:T:=T.v (.bool false)
def BH1:List T:=[T.v (.string {data:=#[80,49]}),T.v (.int .i64 1), T.v (.int .i64 4),T.v (.string {data:=#[66,49]}), T.v (.string {data:=#[]}),T.v (.int .i64 0), T.v (Value.slice none 0 0),T.v (Value.slice none 0 0), T.v (.string {data:=#[]}),T.v (.int .i64 0), T.v (.int .i64 5),T.v (.int .i64 0), T.v (.int .i64 0),T.v (.int .i64 0), T.v (.int .i64 0),T.v (.int .i64 0), T.v (.int .i64 0),T.v (.int .i64 0)]
def BH2:Sh:=[(false,Sy.int IntKind.i64)]
def BH3:T:=T.v (.string {data:=#[]})
def BH4:List T:=[T.v (.string {data:=#[66,49]}),T.v (.int .i64 1), T.v (.string {data:=#[]})]
def BH6:List T:=[T.v (Value.slice none 0 0),T.v (Value.slice none 0 0)]
def BIC(s9: Int × (T×T×aB×T×T×o4) × List cG×PUnit):List (List T):=List.map bA.enc s9.2.2.1
def BIF(s9: Int × (T×T×aB×T×T×o4) × List cG×PUnit):List (List T):=List.map aE.enc s9.2.1.2.2.1.2.2.2.2.1
def BIG(s9: Int × (T×T×aB×T×T×o4) × List cG×PUnit):List (List T):=List.map aP.enc s9.2.1.2.2.1.2.2.2.2.2
def BII(s9: Int × (T×T×aB×T×T×o4) × List cG×PUnit):List (List T):=List.map aY.enc s9.2.1.2.2.1.2.2.2.1
def BIJ(s9: Int × (T×T×aB×T×T×o4) × List cG×PUnit):List (List T):=List.map aK.enc s9.2.1.2.2.1.2.2.1
def BIL(s9: Int × (T×T×aB×T×T×o4) × List cG×PUnit):List (List T):=List.map aV.enc s9.2.1.2.2.1.2.1
def BH7(s9: Int × (T×T×aB×T×T×o4) × List cG×PUnit)(X8: Int × (T×T×aB×T×T×o4) × List cG×PUnit → Prop):Prop:=bL aV (BIL s9) fun (y12:List dC)=>bL aK (BIJ s9) fun (y13:List a8)=>bL aY (BII s9) fun (y14:List dJ)=>bL aE (BIF s9) fun (y15:List aW)=>bL aP (BIG s9) fun (y16:List b8)=>bL bA (BIC s9) fun (y17:List cG)=>X8 (IntKind.i64.wrap (s9.1+1), (s9.2.1.1,s9.2.1.2.1, (s9.2.1.2.2.1.1,y12,y13,y14,y15,y16), T.sl false [],s9.2.1.2.2.2.2.1, s9.2.1.2.2.2.2.2.1, s9.2.1.2.2.2.2.2.2.1, s9.2.1.2.2.2.2.2.2.2.1, s9.2.1.2.2.2.2.2.2.2.2.1, s9.2.1.2.2.2.2.2.2.2.2.2), y17,())
def BID(s9: Int × (T×T×aB×T×T×o4) × List cG×PUnit)(y10:cG):List (List T):=List.map bA.enc s9.2.2.1 ++ [[T.sl false (List.map aM.enc y10.2), T.v (.string y10.1)].reverse].reverse
def BH8(s9: Int × (T×T×aB×T×T×o4) × List cG×PUnit)(y10:cG)(R:T→Prop)(X8: Int × (T×T×aB×T×T×o4) × List cG×PUnit → Prop)(y58:aB):Prop:=aD (decide (64≤s9.1)) (aD (!decide ((↑(BID s9 y10).length : Int) = 0)) (R BH0) (R BH0)) (bL aV (BIL s9) fun (y59:List dC)=>bL aK (BIJ s9) fun (y60:List a8)=>bL aY (BII s9) fun (y61:List dJ)=>bL aE (BIF s9) fun (y62:List aW)=>bL aP (BIG s9) fun (y63:List b8)=>bL bA (List.map bA.enc s9.2.2.1 ++ [[T.v (.string y10.1), T.sl false (List.map aM.enc y10.2)]]) fun (y64:List cG)=>X8 (IntKind.i64.wrap (s9.1+1), (s9.2.1.1,s9.2.1.2.1, (s9.2.1.2.2.1.1,y59,y60, y61,y62,y63), T.sl false [], T.v (.string y58.1), T.sl false (BIP y58), T.sl false (BIE y58), T.sl false (BIO y58), T.sl false (BIN y58), T.sl false (BIM y58)), y64,()))
def BH9(s9: Int × (T×T×aB×T×T×o4) × List cG×PUnit)(y10:cG)(R:T→Prop)(X8: Int × (T×T×aB×T×T×o4) × List cG×PUnit → Prop)(y83:aB):Prop:=aD (decide (64≤s9.1)) (aD (!decide ((↑(BID s9 y10).length : Int) = 0)) (R BH0) (R BH0)) (bL aV (BIL s9) fun (y84:List dC)=>bL aK (BIJ s9) fun (y85:List a8)=>bL aY (BII s9) fun (y86:List dJ)=>bL aE (BIF s9) fun (y87:List aW)=>bL aP (BIG s9) fun (y88:List b8)=>bL bA (List.map bA.enc s9.2.2.1 ++ [[T.v (.string y10.1), T.sl false (List.map aM.enc y10.2)]]) fun (y89:List cG)=>X8 (IntKind.i64.wrap (s9.1+1), (s9.2.1.1,s9.2.1.2.1, (s9.2.1.2.2.1.1,y84,y85,y86,y87, y88), T.sl false [], T.v (.string y83.1), T.sl false (BIP y83), T.sl false (BIE y83), T.sl false (BIO y83), T.sl false (BIN y83), T.sl false (BIM y83)), y89,()))
def BIA(s9: Int × (T×T×aB×T×T×o4) × List cG×PUnit)(X8: Int × (T×T×aB×T×T×o4) × List cG×PUnit → Prop):Prop:=bL aV (BIL s9) fun (y46:List dC)=>bL aK (BIJ s9) fun (y47:List a8)=>bL aY (BII s9) fun (y48:List dJ)=>bL aE (BIF s9) fun (y49:List aW)=>bL aP (BIG s9) fun (y50:List b8)=>bL bA (BIC s9) fun (y51:List cG)=>X8 (IntKind.i64.wrap (s9.1+1), (s9.2.1.1,s9.2.1.2.1, (s9.2.1.2.2.1.1,y46,y47,y48, y49,y50), T.sl false [], s9.2.1.2.2.2.2.1, s9.2.1.2.2.2.2.2.1, s9.2.1.2.2.2.2.2.2.1, s9.2.1.2.2.2.2.2.2.2.1, s9.2.1.2.2.2.2.2.2.2.2.1, s9.2.1.2.2.2.2.2.2.2.2.2), y51,())
def BIB(y107:aB×Int)(X104:Int×aB×PUnit×PUnit→Prop)(s105:Int×aB×PUnit×PUnit):Prop:=bL aV (List.map aV.enc y107.1.2.1) fun (y109:List dC)=>bL aK (List.map aK.enc y107.1.2.2.1) fun (y110:List a8)=>bL aY (List.map aY.enc y107.1.2.2.2.1) fun (y111:List dJ)=>bL aE (List.map aE.enc y107.1.2.2.2.2.1) fun (y112:List aW)=>bL aP (List.map aP.enc y107.1.2.2.2.2.2) fun (y113:List b8)=>eP (a6.rows false [[D.p BH3, D.p BHZ, D.p BHZ, D.p BHZ, D.p BHZ, D.p BHZ]]) (a6.rows false [[D.p BH3, D.p BHZ, D.p BHZ, D.p BHZ, D.p BHZ, D.p BHZ]]) (X104 (IntKind.i64.wrap (s105.1+1), (y107.1.1,y109,y110,y111,y112, y113), (),()))
def BIH(s9: Int × (T×T×aB×T×T×o4) × List cG×PUnit):T:=T.v (.int .i64 (↑(BIC s9).length : Int))
def BIK(s9: Int × (T×T×aB×T×T×o4) × List cG×PUnit)(a0:Int)(R:T→Prop):Prop:=aI BH2 (some (T.v (.int .i64 (↑(BIC s9).length:Int)))) fun (y97:Int)=>bN true (aD (decide (y97 = if 64<(IntKind.i64.wrap a0).tmod 70 then 64 else (IntKind.i64.wrap a0).tmod 70)) (R BH0) (R BH0))
def BIQ(R:T→Prop):Prop:=aI [(false,Sy.bool)] (rR []) fun (y118:Bool)=>R (T.v (.bool y118))
def D6(a0:Int)(R:T→Prop):Prop:=aI BH2 (SS [T.agg [T.v (.string {data:=#[72]}), T.sl true [BH4], T.sl true [BH1], T.v (Value.slice none 0 0),T.v (Value.slice none 0 0), T.v (Value.slice none 0 0)], T.agg BH6]) fun (y0:Int)=>aD (!decide (y0=0)) (R BH0) (aI [(true,aJ)] (EY [T.agg BH6]) fun (y1:aH)=>aI [(true,aC)] (mU [T.agg [T.v (.string {data:=#[72]}), T.sl false [BH4], T.sl false [BH1], T.sl false [],T.sl false [],T.sl false []]]) fun (y2:aB)=>bL aV (BIP y2) fun (y3:List dC)=>bL aK (BIE y2) fun (y4:List a8)=>bL aY (BIO y2) fun (y5:List dJ)=>bL aE (BIN y2) fun (y6:List aW)=>bL aP (BIM y2) fun (y7:List b8)=>a7 (Int × (T×T×aB×T×T×o4) × List cG×PUnit) (fun (X8 : Int × (T×T×aB×T×T×o4) × List cG×PUnit → Prop) (s9 : Int × (T×T×aB×T×T×o4) × List cG×PUnit)=>bN true (aD (decide (s9.1<(IntKind.i64.wrap a0).tmod 70)) (bN true (bN true (aI [(true,bA)] (SX [T.agg [T.v (.string (strOfNums [67, IntKind.u8.wrap (IntKind.i64.wrap (97+IntKind.i64.wrap (Int.tdiv s9.1 10))), IntKind.u8.wrap (IntKind.i64.wrap (48+Int.tmod s9.1 10))])), T.sl false [[T.v (.int .i64 5), T.v (.string {data:=#[]}), T.v (.string {data:=#[]}), T.v (.string {data:=#[]}), T.v (.int .i64 0), T.v (.string {data:=#[]}), T.v (.string {data:=#[80,49]}), T.v (.int .i64 0), T.v (.int .i64 4), T.v (.string {data:=#[66,49]}), T.v (.string {data:=#[]}), T.v (.int .i64 0), T.v (Value.slice none 0 0),T.v (Value.slice none 0 0), T.v (.string {data:=#[]}), T.v (.int .i64 0), T.v (.int .i64 (IntKind.i64.wrap (s9.1+1))), T.v (.int .i64 0), T.v (.int .i64 0), T.v (.int .i64 0), T.v (.int .i64 0), T.v (.int .i64 0), T.v (.int .i64 0), T.v (.int .i64 0), T.v (.string {data:=#[]}), T.v (.string {data:=#[]}), T.v (.string {data:=#[]}), T.v (.int .i64 0), T.v (.int .i64 0), T.v (.int .i64 0), T.v (.string {data:=#[]}), T.v (.string {data:=#[]}), T.v (Value.slice none 0 0), T.v (.int .i64 0), T.v (Value.slice none 0 0), T.v (.int .i64 0), T.v (.string {data:=#[]}), T.v (.string {data:=#[]})]]]]) fun (y10:cG)=>aI [(true,aC),(false,Sy.int IntKind.i64)] (nR [T.agg [s9.2.1.2.2.2.2.1,s9.2.1.2.2.2.2.2.1, s9.2.1.2.2.2.2.2.2.1, s9.2.1.2.2.2.2.2.2.2.1, s9.2.1.2.2.2.2.2.2.2.2.1, s9.2.1.2.2.2.2.2.2.2.2.2], T.agg [s9.2.1.1,s9.2.1.2.1], aF true bA y10]) fun (y11:aB×Int)=>aD (!decide (y11.2=0)) (aD (decide (s9.1<64)) (aD (!decide (0=IntKind.i64.wrap (s9.1+1))) (R BH0) (aD (!decide (y11.2=0)) (R BH0) (aD (decide (64≤s9.1)) (aD (!decide (y11.2=12)) (R BH0) (BH7 s9 X8)) (BH7 s9 X8)))) (aD (decide (64≤s9.1)) (aD (!decide (y11.2=12)) (R BH0) (BH7 s9 X8)) (BH7 s9 X8))) (a7 (Int×PUnit) (fun X36 s37=>aD (decide (s37.1<(↑(BIC s9).length:Int))) (aS bA (BIC s9) s37.1 fun (y38:cG)=>gZ bA (BIC s9) (Int.toNat s37.1) 0 fun (y39:cG)=>aD (decide (y39.1=y10.1)) (aD (decide (0≤s37.1)) (aD (decide (s9.1<64)) (aD (!decide (0=IntKind.i64.wrap (s9.1+1))) (R BH0) (R BH0)) (aD (decide (64≤s9.1)) (R BH0) (bL aV (BIL s9) fun (y40:List dC)=>bL aK (BIJ s9) fun (y41:List a8)=>bL aY (BII s9) fun (y42:List dJ)=>bL aE (BIF s9) fun (y43:List aW)=>bL aP (BIG s9) fun (y44:List b8)=>bL bA (BIC s9) fun (y45:List cG)=>X8 (IntKind.i64.wrap (s9.1+1), (s9.2.1.1,s9.2.1.2.1, (s9.2.1.2.2.1.1,y40,y41,y42,y43, y44), T.sl false [], s9.2.1.2.2.2.2.1, s9.2.1.2.2.2.2.2.1, s9.2.1.2.2.2.2.2.2.1, s9.2.1.2.2.2.2.2.2.2.1, s9.2.1.2.2.2.2.2.2.2.2.1, s9.2.1.2.2.2.2.2.2.2.2.2), y45,())))) (aD (decide (64≤(↑(BIC s9).length:Int))) (aD (decide (s9.1<64)) (aD (!decide (0=IntKind.i64.wrap (s9.1+1))) (R BH0) (R BH0)) (aD (decide (64≤s9.1)) (BIA s9 X8) (BIA s9 X8))) (bN (decide (((BIC s9).length+1) * 40 ≤ 140737488355328) && decide ((BIC s9).length+1 ≤ 140737488355328)) (aI [(true,aC)] (mU [aF true aC y11.1]) fun (y58:aB)=>aD (decide (s9.1<64)) (aD (!decide ((↑(BID s9 y10).length : Int) = IntKind.i64.wrap (s9.1+1))) (R BH0) (BH8 s9 y10 R X8 y58)) (BH8 s9 y10 R X8 y58))))) (X36 (IntKind.i64.wrap (s37.1+1),()))) (aD (decide (64≤(↑(BIC s9).length:Int))) (aD (decide (s9.1<64)) (aD (!decide (0=IntKind.i64.wrap (s9.1+1))) (R BH0) (R BH0)) (aD (decide (64≤s9.1)) (BH7 s9 X8) (BH7 s9 X8))) (bN (decide (((BIC s9).length+1)*40 ≤ 140737488355328) && decide ((BIC s9).length+1 ≤ 140737488355328)) (aI [(true,aC)] (mU [aF true aC y11.1]) fun (y83:aB)=>aD (decide (s9.1<64)) (aD (!decide ((↑(BID s9 y10).length : Int) = IntKind.i64.wrap (s9.1+1))) (R BH0) (BH9 s9 y10 R X8 y83)) (BH9 s9 y10 R X8 y83))))) (0,()))))) (aI BH2 (some (T.v (.int .i64 (↑(BIC s9).length:Int)))) fun (y96:Int)=>aD (decide (y96<0)) (BIK s9 a0 R) (aD (decide ((↑(BIC s9).length:Int)<y96)) (BIK s9 a0 R) (bN (decide (0≤y96) && decide (y96.toNat≤(BIC s9).length) && true) (aD (decide (y96.toNat=0)) (bL aV (BIL s9) fun (y99:List dC)=>bL aK (BIJ s9) fun (y100:List a8)=>bL aY (BII s9) fun (y101:List dJ)=>bL aE (BIF s9) fun (y102:List aW)=>bL aP (BIG s9) fun (y103:List b8)=>eP (a6.rows false [[D.p BH3, D.p BHZ, D.p BHZ, D.p BHZ, D.p BHZ, D.p BHZ]]) (a6.rows false [[D.p BH3, D.p BHZ, D.p BHZ, D.p BHZ, D.p BHZ, D.p BHZ]]) (a7 (Int×aB×PUnit×PUnit) (fun X104 s105=>aD (decide (s105.1<(↑0:Int))) (aS bA [] s105.1 fun (y106:cG)=>aI [(true,aC),(false,Sy.int IntKind.i64)] (nR [aF true aC s105.2.1, T.agg [s9.2.1.1,s9.2.1.2.1], aF true bA y106]) fun (y107:aB×Int)=>aD (!decide (y107.2=0)) (aI BH2 (some (BIH s9)) fun (y108:Int)=>bN true (aD (decide (y108 = if 64<(IntKind.i64.wrap a0).tmod 70 then 64 else (IntKind.i64.wrap a0).tmod 70)) (aD (decide (y107.2=0)) (R BH0) (R BH0)) (R BH0))) (BIB y107 X104 s105)) (aI [(true,aC)] (mU [aF true aC s105.2.1]) fun (y114:aB)=>aI BH2 (some (BIH s9)) fun (y115:Int)=>bN true (aD (decide (y115 = if 64<(IntKind.i64.wrap a0).tmod 70 then 64 else (IntKind.i64.wrap a0).tmod 70)) (aD (decide ((↑(BIE y114).length : Int) = 1)) (aS aK (BIE y114) 0 fun (y116:a8)=>aI BH2 (some (BIH s9)) fun (y117:Int)=>aD (decide (y116.2.1=IntKind.i64.wrap (y117+1))) (BIQ R) (R BH0)) (R BH0)) (R BH0)))) (0,(s9.2.1.2.2.1.1,y99,y100,y101,y102,y103),(), ()))) (bN (A4R 2 (BIC s9)) (bL aV (BIL s9) fun (y119:List dC)=>bL aK (BIJ s9) fun (y120:List a8)=>bL aY (BII s9) fun (y121:List dJ)=>bL aE (BIF s9) fun (y122:List aW)=>bL aP (BIG s9) fun (y123:List b8)=>eP (a6.rows false [[D.p BH3, D.p BHZ, D.p BHZ, D.p BHZ, D.p BHZ, D.p BHZ]]) (a6.rows false [[D.p BH3, D.p BHZ, D.p BHZ, D.p BHZ, D.p BHZ, D.p BHZ]]) (a7 (Int×aB×PUnit×PUnit) (fun X124 s125=>aD (decide (s125.1<(↑(y96.toNat-0):Int))) (bN (decide (0≤s125.1) && decide (Int.toNat s125.1<y96.toNat-0)) (aS bA (BIC s9) (↑(0+Int.toNat s125.1):Int) fun (y126:cG)=>gZ bA (BIC s9) (0+Int.toNat s125.1) 0 fun (y127:cG)=>aI [(true,aC), (false,Sy.int IntKind.i64)] (nR [aF true aC s125.2.1, T.agg [s9.2.1.1,s9.2.1.2.1], aF true bA y127]) fun (y128:aB×Int)=>aD (!decide (y128.2=0)) (aI BH2 (some (BIH s9)) fun (y129:Int)=>bN true (aD (decide (y129 = if 64 < (IntKind.i64.wrap a0).tmod 70 then 64 else (IntKind.i64.wrap a0).tmod 70)) (aD (decide (y128.2=0)) (R BH0) (R BH0)) (R BH0))) (BIB y128 X124 s125))) (aI [(true,aC)] (mU [aF true aC s125.2.1]) fun (y135:aB)=>aI BH2 (some (BIH s9)) fun (y136:Int)=>bN true (aD (decide (y136 = if 64<(IntKind.i64.wrap a0).tmod 70 then 64 else (IntKind.i64.wrap a0).tmod 70)) (aD (decide ((↑(BIE y135).length : Int) = 1)) (aS aK (BIE y135) 0 fun (y137:a8)=>aI BH2 (some (BIH s9)) fun (y138:Int)=>aD (decide (y137.2.1 = IntKind.i64.wrap (y138+1))) (BIQ R) (R BH0)) (R BH0)) (R BH0)))) (0,(s9.2.1.2.2.1.1,y119,y120,y121,y122,y123),(), ())))))))))) (0, (T.sl false (List.map bQ.enc y1.1), T.sl false (List.map bH.enc y1.2),(y2.1,y3,y4,y5,y6,y7), T.sl false [],T.v (.string y2.1), T.sl false (BIP y2), T.sl false (BIE y2), T.sl false (BIO y2), T.sl false (BIN y2), T.sl false (BIM y2)), [],()))
abbrev xQ:Sh:=[(false,(Sy.int IntKind.u8))]
def TK (n:Int):Bool:=decide (0≤n)&&decide (n≤255)
def mP (x:Int):Option T:=match TK x with
 | true=>some (T.v (.bool true))
 | false=>none
noncomputable def PO:List T→Option T:=gS xQ mP
theorem AFK:rM Tryz.prog 4 PO mP (b9 xQ) D6:=gQ (a1:=(false,(Sy.int IntKind.u8))) (sp:=mP) (F:=D6) (Hs:=AK3) (f:=4) (k:=8) VI aR aU (aL rfl) ⟨_,_,Tryz.func4,rfl⟩ rfl fun _ _=>by kernel_rfl
def A5Z (d:aB):T×T×T×T×T×T:=(T.v (.string d.1),T.sl false (List.map aV.enc d.2.1),T.sl false (List.map aK.enc d.2.2.1),T.sl false (List.map aY.enc d.2.2.2.1),T.sl false (List.map aE.enc d.2.2.2.2.1),T.sl false (List.map aP.enc d.2.2.2.2.2))
def stF (j k:Nat):Int×(T×T×aB×T×T×T×T×T×T×T)×List cG×PUnit:=((k:Int),(T.sl false [],T.sl false [],dR 1 5,T.sl false [],A5Z (hR j).last),(hR j).FQ,())
theorem idS:∀ k:Fin 70,strOfNums [67,IntKind.u8.wrap (IntKind.i64.wrap (97+IntKind.i64.wrap (Int.tdiv (k.val:Int) 10))),IntKind.u8.wrap (IntKind.i64.wrap (48+Int.tmod (k.val:Int) 10))]=idR k.val:=by decide +kernel
theorem AJ (j:Nat):(List.map bA.enc (hR j).FQ).length=j:=by simp[hR]
theorem A89 (j:Nat):(hR (j+1)).FQ=(hR j).FQ++[oR j]:=by simp[hR,List.range_succ]
theorem AH7 (j:Nat):(hR (j+1)).last=dR ((j:Int)+2) ((j:Int)+1):=by
 show dR (((j+1:Nat):Int)+1) (if j+1=0 then 5 else ((j+1:Nat):Int))=_
 rw[if_neg (Nat.succ_ne_zero j)]
 have e:((j+1:Nat):Int)+1=(j:Int)+2:=by omega
 rw[e];rfl
theorem BAY (j k:Nat):okA (hR j).last (oR k)=true:=by kernel_rfl
theorem A5R {j k:Nat} (hj:j≤64) (hk:k<70):nR [aF true aC (hR j).last,aF true aJ ([],[]),aF true bA (oR k)]=some (Sh.enc [(true,aC),(false,.int .i64)] (dR ((j:Int)+2) ((k:Int)+1),(0:Int))) :=
 (ALP (BAY j k)).trans (by rw[AWN hj hk])
theorem ADK (r n:Int):mU [aF true aC (dR r n)]=some (Sh.enc [(true,aC)] (dR r n)) :=
 Eq.trans (b:=vQ [aF true aC (dR r n)]) (by kernel_rfl) ((XS ..).trans (l6 _ (by kernel_rfl)))
theorem XG {j:Nat} {q:Int} (hj:j≤64) (hq:(j:Int)=if 64<q then 64 else q) {R:T→Prop} (hR':R (T.v (.bool true))) :
  aI [(true,aC)] (mU [aF true aC (hR j).last]) fun y=>aI [(false,Sy.int IntKind.i64)] (some (T.v (.int .i64 (j:Int)))) fun l=>bN true (aD (decide (l=if 64<q then 64 else q))
   (aD (decide (((List.map aK.enc y.2.2.1).length:Int)=1)) (aS aK (List.map aK.enc y.2.2.1) 0 fun p=>aI [(false,Sy.int IntKind.i64)] (some (T.v (.int .i64 (j:Int)))) fun m=>aD (decide (p.2.1=IntKind.i64.wrap (m+1)))
    (aI [(false,Sy.bool)] (rR []) fun b=>R (T.v (.bool b))) (R (T.v (.bool false)))) (R (T.v (.bool false)))) (R (T.v (.bool false)))):=by
 refine aG (s:=[(true,aC)]) (y:=(hR j).last) (ADK _ _) ?_
 refine aG (s:=[(false,.int .i64)]) (y:=(j:Int)) rfl ⟨rfl,?_⟩
 refine bZ (fun _=>?_) fun h=>absurd hq h
 refine bZ (fun _=>?_) fun h=>absurd rfl h
 refine AY6 (r:=aK) (l:=(hR j).last.2.2.1) (k:=0) (y:=pR ((j:Int)+1) (if j=0 then 5 else (j:Int))) rfl rfl ?_
 refine aG (s:=[(false,.int .i64)]) (y:=(j:Int)) rfl ?_
 refine bZ (fun _=>aG (s:=[(false,.bool)]) (y:=true) rfl hR') fun h=>absurd ?_ h
 rw[bB _ (by omega) (by omega)];rfl
theorem AD3:aN Tryz.prog 4 PO:=AFK fun a0 r h hb=>by
 clear hb
 obtain ⟨hc,rfl⟩:=rC h
 clear h
 unfold TK at hc
 rw[Bool.and_eq_true,decide_eq_true_eq,decide_eq_true_eq] at hc
 unfold D6 BIQ BIK BIH BIB BIA BH9 BH8 BIP BIO BIN BIM BIE BID BH7 BIL BIJ BII BIG BIF BIC BH6 BH4 BH3 BH2 BH1 BH0 BHZ
 refine aG (s:=[(false,.int .i64)]) (y:=(0:Int)) (Eq.trans (b:=cC [aF true aC (dR 1 5),aF true aJ ([],[])]) (by kernel_rfl) ((mI ..).trans (congrArg (fun z=>some (T.v (.int .i64 z))) (ADE (r:=1) (n:=5) (by omega) (by omega))))) ?_
 refine lI (fun h=>absurd rfl h) fun _=>?_
 refine aG (s:=[(true,aJ)]) (y:=(([],[]):aH)) (Eq.trans (b:=vR [aF true aJ ([],[])]) (by kernel_rfl) ((XT ..).trans (l6 _ (by kernel_rfl)))) ?_
 refine aG (s:=[(true,aC)]) (y:=dR 1 5) (Eq.trans (b:=mU [aF true aC (dR 1 5)]) (by kernel_rfl) (ADK 1 5)) ?_
 refine w7 (d:=dR 1 5) ?_
 obtain ⟨N,hN,hN70⟩:∃ N:Nat,(IntKind.i64.wrap a0).tmod 70=(N:Int)∧N<70:=by
  rw[bB a0 (by omega) (by omega)]
  have h1:=Int.tmod_nonneg (a:=a0) 70 hc.1
  have h2:=Int.tmod_lt_of_pos a0 (b:=70) (by omega)
  exact ⟨(a0.tmod 70).toNat,by omega,by omega⟩
 rw[hN]
 refine bK N (fun k s=>s=stF (min k 64) k) rfl ?_
 rintro X k s hk rfl hX
 obtain ⟨j,hj,hjk⟩:∃ j,min k 64=j∧((k<64∧j=k)∨(64≤k∧j=64)):=⟨_,rfl,by omega⟩
 have hj64:j≤64:=by omega
 rw[hj]
 unfold stF A5Z
 dsimp only
 rw[AJ j]
 refine ⟨rfl,?_⟩
 refine bZ (fun hlt=>?_) fun hge=>?_
 ·have hlt:k<N:=by omega
  have hk70:k<70:=by omega
  refine ⟨rfl,rfl,?_⟩
  rw[idS ⟨k,hk70⟩,show IntKind.i64.wrap ((k:Int)+1)=(k:Int)+1 from bB _ (by omega) (by omega)]
  refine aG (s:=[(true,bA)]) (y:=oR k) (Eq.trans (b:=vS [aF true bA (oR k)]) (by kernel_rfl) ((XU ..).trans (l6 _ (by kernel_rfl)))) ?_
  refine aG (s:=[(true,aC),(false,.int .i64)]) (y:=(dR ((j:Int)+2) ((k:Int)+1),(0:Int))) (Eq.trans (b:=nR [aF true aC (hR j).last,aF true aJ ([],[]),aF true bA (oR k)]) (by kernel_rfl) (A5R hj64 hk70)) ?_
  refine lI (fun h=>absurd rfl h) fun _=>?_
  refine AWP (AJ j) (by omega) (fun o ho=>?_) ?_
  ·obtain ⟨t,ht,rfl⟩:=List.mem_map.1 ho
   have ht:=List.mem_range.1 ht
   intro he
   have:=congrArg Fin.val (A3N ⟨t,by omega⟩ ⟨k,by omega⟩ he)
   dsimp at this
   omega
  rcases hjk with ⟨h64,rfl⟩|⟨h64,rfl⟩
  ·refine bZ (fun h=>absurd h (by omega)) fun _=>?_
   refine ⟨by rw[decide_eq_true (by omega),decide_eq_true (by omega)];rfl,?_⟩
   refine aG (s:=[(true,aC)]) (y:=dR ((j:Int)+2) ((j:Int)+1)) (ADK _ _) ?_
   refine bZ (fun _=>?_) fun h=>absurd h (by omega)
   refine lI (fun h=>absurd ?_ h) fun _=>?_
   ·rw[List.length_append,AJ j];rfl
   refine bZ (fun h=>absurd h (by omega)) fun _=>?_
   refine w7 (d:=dR 1 5) ?_
   refine eJ (r:=bA) rfl (l:=(hR j).FQ++[oR j]) (by rw[List.map_append];rfl) ?_
   refine hX _ hlt ?_
   have e:min (j+1) 64=j+1:=by omega
   rw[e]
   unfold stF
   rw[A89,AH7]
   rfl
  ·refine bZ (fun _=>?_) fun h=>absurd (by omega) h
   refine bZ (fun h=>absurd h (by omega)) fun _=>?_
   refine bZ (fun _=>?_) fun h=>absurd (by omega) h
   refine w7 (d:=dR 1 5) ?_
   refine A2S ?_
   refine hX _ hlt ?_
   have e:min (k+1) 64=64:=by omega
   rw[e];rfl
 ·have hkN:k=N:=by omega
  have hq:(j:Int)=if (64:Int)<(N:Int) then 64 else (N:Int):=by split<;>omega
  refine aG (s:=[(false,.int .i64)]) (y:=(j:Int)) rfl ?_
  refine bZ (fun h=>absurd h (by omega)) fun _=>?_
  refine bZ (fun h=>absurd h (by omega)) fun _=>?_
  refine ⟨by rw[Int.toNat_natCast,decide_eq_true (by omega),decide_eq_true (Nat.le_refl _)];rfl,?_⟩
  rw[Int.toNat_natCast]
  refine bZ (fun h0=>?_) fun h0=>?_
  ·subst h0
   refine w7 (d:=dR 1 5) ?_
   rw[cI]
   intro X hX
   refine hX _ ?_
   dsimp only
   refine bZ (fun h=>absurd h (by decide)) fun _=>?_
   exact XG (j:=0) (R:=fun y=>y=T.v (.bool true)) (by omega) hq rfl
  ·refine ⟨?_,?_⟩
   ·exact AYB (by have:=AJ j;rw[List.length_map] at this;omega)
   refine w7 (d:=dR 1 5) ?_
   rw[cI]
   refine A2I (f:=fun t=>(hR t).last) (by have:=AJ j;rw[List.length_map] at this;omega) (by have:=AJ j;rw[List.length_map] at this;omega) (fun t ht=>?_) ?_
   ·have e:(hR j).FQ[t]'(by have:=AJ j;rw[List.length_map] at this;omega)=oR t:=by simp[hR]
    rw[e,AH7 t]
    exact A5R (by omega) (by omega)
   ·exact XG (R:=fun y=>y=T.v (.bool true)) hj64 hq rfl
theorem AFV:∀ x:Int,A7F xQ x→mP x=some (.v (.bool true)):=fun x h=>by
 have h:(Lit.int .u8 x).wf=true:=h
 have:TK x=true:=by
  unfold TK
  simp[Lit.wf] at h
  rw[show IntKind.u8.min=0 from rfl,show IntKind.u8.max=255 from rfl] at h
  rw[decide_eq_true (by omega),decide_eq_true (by omega)];rfl
 unfold mP
 rw[this]
end Go.Pv
