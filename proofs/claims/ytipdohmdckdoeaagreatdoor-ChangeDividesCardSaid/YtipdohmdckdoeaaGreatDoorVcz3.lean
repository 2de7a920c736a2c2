/-
  edit.Apply, kind by kind.
  edit.Apply, the kinds 5 and 6 (the copied parts are turned in place).
  shipyardref16.Few, shipyardref19.Few.
  edit.Apply with a kind that there is not; edit.Apply.
  Designs that an edit makes are not too large.
  Change orders, plain: an order has the effect of its beginning followed by the rest.
  change.Apply: an order, edit by edit.
  VersionChanges, plain: maps of first elements, what differs; the least behind the last.
  slices.Sort, Compact, DeleteFunc, Grow at strings.
  edit.Touches.
  Ascending lists of strings, each once (plain).
  VersionChanges, plain: what two designs differ in, ascending.
  shipyardref19.Touches.
  shipyardref19.Touches.
  ChangeTouches, plain: what orders name.
  shipyardref20.with, Touched, Conflicts, Few.
  Functions given by a table of arguments and results.
  Chapter 20's examples: the calls of edit.Apply, each run for itself. (The table is printed by tools/tab20.py.)
  strings.Builder: WriteString and String, by the library's contracts.
  change.Encode: the round's body: an edit is read, encoded, written.
  change.Encode.
  The bytes of numbers, texts and lists (plain).
  cbor.Int, Text, List; the same of the reference.
  shipyardref05.Int, Text, List.
  The encoding of lists, contours, parts and edits.
  change.Encode, the contract.
  VersionChanges: maps of records keyed by strings, and ranges over them.
  Sets of names as maps, and ranges over them.
  Chapter 20's examples: what Encode and Conflicts answer there (what they call is run for itself).
-/
import Derived.Test.YtipdohmdckdoeaaGreatDoorVcz2
import Derived.Test.YtipdohmdckdoeaaGreatDoorVcz1
import Derived.Test.YtipdohmdckdoeaaGreatDoorVckn
import Derived.Test.YtipdohmdckdoeaaGreatDoorVckq
import Derived.Test.YtipdohmdckdoeaaGreatDoorVckr
import Derived.Test.YtipdohmdckdoeaaGreatDoorVclv
import Derived.KernelRfl
import Derived.Sort.Walk0
import Derived.Test.YtipdohmdckdoeaaGreatDoorVcgs
import Derived.Test.YtipdohmdckdoeaaGreatDoorVccb
import Derived.Shelf.Strings.Builder1
import Derived.Shelf.Strings.BuilderF
import Derived.Shelf.Strings.MapGrows
import Derived.Test.YtipdohmdckdoeaaGreatDoorVckh
import Derived.WalkKit
import Derived.BigCall
import Derived.Deep.RegionWith
import Derived.Deep.LoopGhost
import Derived.Laws.BytesArg
import Derived.Test.YtipdohmdckdoeaaGreatDoorVckp
import Derived.Test.YtipdohmdckdoeaaGreatDoorVckw
set_option linter.defProp false
set_option linter.unusedSimpArgs false
set_option linter.unusedVariables false
set_option maxRecDepth 100000
namespace Go.Pv
open Go Go.Proofs IntKind
def okX (d:aB) (x:aV):Bool:=wY d&&(gC (cQ x)&&fF (iN x))
def mH {d:aB} {x:aV} (h:okX d x=true):wY d=true/\gC (cQ x)=true/\fF (iN x)=true:=by
 unfold okX at h;rw[ac,ac] at h;exact h
def mD (k:Int) (x y:pP) (h:([aG true aD x.1,aG true aK x.2.1,aG true aM (k,x.2.2)]:List T)=[aG true aD y.1,aG true aK y.2.1,aG true aM (k,y.2.2)]):x=y:=by
 simp only[List.cons.injEq,and_true] at h;obtain ⟨h1,h2,h3⟩:=h;exact Prod.ext (nM (r:=aD) rfl h1) (Prod.ext (nM (r:=aK) rfl h2) (Prod.mk.inj (nM (r:=aM) rfl h3)).2)
def dN {c:Bool} {a:T}:c=true->(match c with|true=>some a|false=>none)=some a:=λh=>by rw[h]
variable {α:Type}
def iK (no:α) (o:Option α):(found no o).2=o.isSome:=by cases o<;>rfl
variable {m:aI}
def mE {d:aB} {x:aV} (hk:1<=x.1/\x.1<=12) (h:lX x (bY x)=false):bK d m x=(nF,2):=by
 unfold bK;rw[if_neg (λh=>h hk),if_pos (.inl h)]
def uJ {d:aB} {x:aV} (hk:1<=x.1/\x.1<=12) (h5:¬ x.1=5) (h:lX x (bY x)=true) (ha:lL x=true) (ht:dY d x=true):bK d m x=(nF,7):=by
 unfold bK;rw[if_neg (λh=>h hk),if_neg (λe=>e.elim (λe=>by rw[h] at e;cases e) λe=>h5 e.1),if_pos ⟨ha,ht⟩]
def uI {d:aB} {x:aV} (hk:1<=x.1/\x.1<=12) (h5:¬ x.1=5) (h:lX x (bY x)=true) (ha:lL x=false) (ht:dY d x=false):bK d m x=(nF,8):=by
 unfold bK;rw[if_neg (λh=>h hk),if_neg (λe=>e.elim (λe=>by rw[h] at e;cases e) λe=>h5 e.1),if_neg (λe=>by rw[ha] at e;cases e.1),if_pos ⟨ha,ht⟩]
def GH {d:aB} {x:aV} (hk:1<=x.1/\x.1<=12) (h5:¬ x.1=5) (h:lX x (bY x)=true) (ha:dY d x = !lL x) (hu:lQ d x=true):bK d m x=(nF,34):=by
 unfold bK;rw[if_neg (λh=>h hk),if_neg (λe=>e.elim (λe=>by rw[h] at e;cases e) λe=>h5 e.1),if_neg (λe=>by rw[ha,e.1] at e;cases e.2),if_neg (λe=>by rw[ha,e.1] at e;cases e.2),if_neg (λe=>h5 e.1),if_pos hu]
def fI {d:aB} {x:aV} (hk:1<=x.1/\x.1<=12) (h5:¬ x.1=5) (h:lX x (bY x)=true) (ha:dY d x = !lL x) (hu:lQ d x=false):bK d m x=if fK (kW d x) m=0 then (kW d x,0) else (nF,fK (kW d x) m):=by
 unfold bK;rw[if_neg (λh=>h hk),if_neg (λe=>e.elim (λe=>by rw[h] at e;cases e) λe=>h5 e.1),if_neg (λe=>by rw[ha,e.1] at e;cases e.2),if_neg (λe=>by rw[ha,e.1] at e;cases e.2),if_neg (λe=>h5 e.1),if_neg (by rw[hu];decide)]
def OR (a0:aB) (a1:aI) (a2:iII×iII×bR×a8×bU×aQ×bI):List T:=[aG true aD a0,aG true aK a1,aG true aM (1,a2)]
noncomputable def AX1:Env:=Env.of [(93,.pure cL),(147,.pure WR),(149,.pure FB),(69,.pure fY),(150,.pure WD),(65,.pure dB)]
def BFO:FuncId->Hint:=λ_=>bA
def BAF:aU Tryz.prog AX1:=.cons jZ (.cons BIP (.cons APN (.cons oW (.cons BIA (.cons lA (.nil _))))))
def BSP:List T:=[pPQ ({data:=#[]}),T.sl false [],T.sl false [], T.sl false [],T.sl false [],T.sl false []]
def BSR:Sh:=[(false,Sy.int IntKind.i64)]
def BSS:List T:=[T.agg BSP, pPP 2]
def BSU:Sh:=[(false,Sy.bool)]
def BSY:List T:=[T.agg BSP, pPP 7]
def BS9(y4:aB)(a1:aI)(R:T->Prop):Prop:=aJ BSR (dB [aG true aD y4,aG true aK a1]) λ(y5:Int)=>aC (!decide (y5=0)) (R (T.cE [T.agg BSP, pPP y5])) (R (T.cE [aG true aD y4,pPP 0]))
def AZW(a0:aB)(a1:aI)(a2:iII×iII×bR×a8×bU×aQ×bI)(R:T->Prop):Prop:=aJ [(true,aM)] (WR [(aG true aM (1,a2))]) λ(y0:aV)=>aJ BSU (cL [(aG true aM (1,a2)), aG true aM y0]) λ(y1:Bool)=>aC (!y1) (R (T.cE BSS)) (aJ [(true,bC),(false,Sy.bool)] (FB [aG true aD a0,pPQ a2.2.2.1.1]) λ(y2:bR×Bool)=>aC y2.2 (R (T.cE BSY)) (aJ [(true,aD)] (fY [aG true aD a0]) λ(y3:aB)=>aJ [(true,aD)] (WD [aG true aD y3, (aG true aM (1,a2))]) λ(y4:aB)=>BS9 y4 a1 R))
def AZX ( a0 a1 a2 R):eX cD Tryz.prog AX1 BFO 8 66 (OR a0 a1 a2) R=AZW a0 a1 a2 R:=by kernel_rfl
noncomputable def AN6 (x:pP):Option T:=match okX x.1 (1,x.2.2) with
 | true=>some (Sh.enc [(true,aD),(false,.int .i64)] (bK x.1 x.2.1 (1,x.2.2)))
 | false=>none
def ARD (x y:pP) (h:OR x.1 x.2.1 x.2.2=OR y.1 y.2.1 y.2.2):x=y:=mD 1 x y h
noncomputable def A4J:List T->Option (T):=gA (λ(x:aB×aI×iII×iII×bR×a8×bU×aQ×bI)=>OR x.1 x.2.1 x.2.2) AN6
def A4K (a0:aB) (a1:aI) (a2:iII×iII×bR×a8×bU×aQ×bI):A4J (OR a0 a1 a2)=AN6 (a0,a1,a2):=gG (A:=(λ(x:aB×aI×iII×iII×bR×a8×bU×aQ×bI)=>OR x.1 x.2.1 x.2.2)) ARD (a0,a1,a2)
def BJ4 (h:∀ (a0:aB) (a1:aI) (a2:iII×iII×bR×a8×bU×aQ×bI) (r:T),AN6 (a0,a1,a2)=some r->(∀ t∈OR a0 a1 a2,Bd t)->AZW a0 a1 a2 (λy=>y=r)):aP Tryz.prog 66 A4J :=
 cZ (E:=AX1) (Hs:=BFO) BAF aY a6 (aO rfl) 8 ⟨_,_,Tryz.func66,rfl⟩ λx r h1 h2=>by
  rw[AZX];exact h x.1 x.2.1 x.2.2 r h1 h2
def A3Y:aP Tryz.prog 66 A4J:=BJ4 λd m x r h hb=>by
 clear hb;obtain ⟨hp,rfl⟩:=jR h;clear h;obtain ⟨hc,ho1,ho2⟩:=mH hp;have c:=eN hc;have is:∀ {a:aB×Int},bK d m (1,x)=a->Sh.enc [(true,aD),(false,.int .i64)] a=Sh.enc [(true,aD),(false,.int .i64)] (bK d m (1,x)):=λh=>by rw[h]
 have hk:(1:Int)<=((1,x):aV).1/\((1,x):aV).1<=12:=by dsimp only;omega
 have h5:¬ ((1,x):aV).1=5:=by dsimp only;omega
 have lift:∀ {a:aB×Int},bK d m (1,x)=a->∀ v,v=Sh.enc [(true,aD),(false,.int .i64)] a->v=Sh.enc [(true,aD),(false,.int .i64)] (bK d m (1,x)):=λh v hv=>by rw[h];exact hv
 unfold AZW BS9 BSY BSU BSS BSR BSP;have z1:WR [aG true aM (1,x)]=some (Sh.enc [(true,aM)] (bY (1,x))):=(A5D ..).trans rfl;refine aF (s:=[(true,aM)]) (y:=bY (1,x)) z1 ?_;have z2:cL [aG true aM (1,x),aG true aM (bY (1,x))]=some (Sh.enc jJ (lX (1,x) (bY (1,x)))):=fZ ..;refine aF (s:=jJ) (y:=lX (1,x) (bY (1,x))) z2 ?_;refine fJ (λh=>lift (mE hk h) _ rfl) λhE=>?_;refine aF (s:=[(true,bC),(false,.bool)]) (y:=found iS (eV d (pZ (1,x)).1)) (WN ..) ?_;have ht:dY d (1,x)=(found iS (eV d (pZ (1,x)).1)).2:=(iK ..).symm;have hus:lQ d (1,x)=false:=rfl;refine sX (λh=>lift (uJ hk h5 hE rfl (ht.trans h)) _ rfl) λh=>?_;have hth:dY d (1,x) = !lL (1,x):=ht.trans h;refine aF (s:=[(true,aD)]) (y:=d) ((iL ..).trans (dN hc)) ?_;have z3:WD [aG true aD d,aG true aM (1,x)]=some (Sh.enc [(true,aD)] (kW d (1,x))):=(A41 ..).trans (dN hc);refine aF (s:=[(true,aD)]) (y:=kW d (1,x)) z3 ?_;refine aF (s:=[(false,.int .i64)]) (y:=fK (kW d (1,x)) m) (gU ..) ?_;exact lF (λh=>lift ((fI hk h5 hE hth hus).trans (if_neg h)) _ rfl) λh=>lift ((fI hk h5 hE hth hus).trans (if_pos h)) _ rfl
def OT (a0:aB) (a1:aI) (a2:iII×iII×bR×a8×bU×aQ×bI):List T:=[aG true aD a0,aG true aK a1,aG true aM (3,a2)]
noncomputable def AX3:Env:=Env.of [(93,.pure cL),(167,.pure WU),(94,.pure mF),(69,.pure fY),(169,.pure WG),(65,.pure dB)]
def BFQ:FuncId->Hint:=λ_=>bA
def BAH:aU Tryz.prog AX3:=.cons jZ (.cons BIR (.cons GX (.cons oW (.cons BIC (.cons lA (.nil _))))))
def BSZ:Sh:=[(true,aN),(false,Sy.bool)]
def AZ0(a0:aB)(a1:aI)(a2:iII×iII×bR×a8×bU×aQ×bI)(R:T->Prop):Prop:=aJ [(true,aM)] (WU [(aG true aM (3,a2))]) λ(y0:aV)=>aJ BSU (cL [(aG true aM (3,a2)), aG true aM y0]) λ(y1:Bool)=>aC (!y1) (R (T.cE BSS)) (aJ BSZ (mF [aG true aD a0,pPQ a2.2.2.2.1.1]) λ(y2:a8×Bool)=>aC y2.2 (R (T.cE BSY)) (aJ [(true,aD)] (fY [aG true aD a0]) λ(y3:aB)=>aJ [(true,aD)] (WG [aG true aD y3, (aG true aM (3,a2))]) λ(y4:aB)=>BS9 y4 a1 R))
def AZ1 ( a0 a1 a2 R):eX cD Tryz.prog AX3 BFQ 8 66 (OT a0 a1 a2) R=AZ0 a0 a1 a2 R:=by kernel_rfl
noncomputable def AN8 (x:pP):Option T:=match okX x.1 (3,x.2.2) with
 | true=>some (Sh.enc [(true,aD),(false,.int .i64)] (bK x.1 x.2.1 (3,x.2.2)))
 | false=>none
def ARF (x y:pP) (h:OT x.1 x.2.1 x.2.2=OT y.1 y.2.1 y.2.2):x=y:=mD 3 x y h
noncomputable def A4N:List T->Option (T):=gA (λ(x:aB×aI×iII×iII×bR×a8×bU×aQ×bI)=>OT x.1 x.2.1 x.2.2) AN8
def A4O (a0:aB) (a1:aI) (a2:iII×iII×bR×a8×bU×aQ×bI):A4N (OT a0 a1 a2)=AN8 (a0,a1,a2):=gG (A:=(λ(x:aB×aI×iII×iII×bR×a8×bU×aQ×bI)=>OT x.1 x.2.1 x.2.2)) ARF (a0,a1,a2)
def BJ6 (h:∀ (a0:aB) (a1:aI) (a2:iII×iII×bR×a8×bU×aQ×bI) (r:T),AN8 (a0,a1,a2)=some r->(∀ t∈OT a0 a1 a2,Bd t)->AZ0 a0 a1 a2 (λy=>y=r)):aP Tryz.prog 66 A4N :=
 cZ (E:=AX3) (Hs:=BFQ) BAH aY a6 (aO rfl) 8 ⟨_,_,Tryz.func66,rfl⟩ λx r h1 h2=>by
  rw[AZ1];exact h x.1 x.2.1 x.2.2 r h1 h2
def BH3:aP Tryz.prog 66 A4N:=BJ6 λd m x r h hb=>by
 clear hb;obtain ⟨hp,rfl⟩:=jR h;clear h;obtain ⟨hc,ho1,ho2⟩:=mH hp;have c:=eN hc;have is:∀ {a:aB×Int},bK d m (3,x)=a->Sh.enc [(true,aD),(false,.int .i64)] a=Sh.enc [(true,aD),(false,.int .i64)] (bK d m (3,x)):=λh=>by rw[h]
 have hk:(1:Int)<=((3,x):aV).1/\((3,x):aV).1<=12:=by dsimp only;omega
 have h5:¬ ((3,x):aV).1=5:=by dsimp only;omega
 have lift:∀ {a:aB×Int},bK d m (3,x)=a->∀ v,v=Sh.enc [(true,aD),(false,.int .i64)] a->v=Sh.enc [(true,aD),(false,.int .i64)] (bK d m (3,x)):=λh v hv=>by rw[h];exact hv
 unfold AZ0 BS9 BSZ BSY BSU BSS BSR BSP;have z1:WU [aG true aM (3,x)]=some (Sh.enc [(true,aM)] (bY (3,x))):=(A5F ..).trans rfl;refine aF (s:=[(true,aM)]) (y:=bY (3,x)) z1 ?_;have z2:cL [aG true aM (3,x),aG true aM (bY (3,x))]=some (Sh.enc jJ (lX (3,x) (bY (3,x)))):=fZ ..;refine aF (s:=jJ) (y:=lX (3,x) (bY (3,x))) z2 ?_;refine fJ (λh=>lift (mE hk h) _ rfl) λhE=>?_;refine aF (s:=[(true,aN),(false,.bool)]) (y:=found eJ (partOf d (cQ (3,x)).1)) ((rP ..).trans (by unfold mA;dsimp only;rw[c.NJ];rfl)) ?_;have ht:dY d (3,x)=(found eJ (partOf d (cQ (3,x)).1)).2:=(iK ..).symm;have hus:lQ d (3,x)=false:=rfl;refine sX (λh=>lift (uJ hk h5 hE rfl (ht.trans h)) _ rfl) λh=>?_;have hth:dY d (3,x) = !lL (3,x):=ht.trans h;refine aF (s:=[(true,aD)]) (y:=d) ((iL ..).trans (dN hc)) ?_;have z3:WG [aG true aD d,aG true aM (3,x)]=some (Sh.enc [(true,aD)] (kW d (3,x))):=(A43 ..).trans (dN (by rw[hc,ho1];rfl));refine aF (s:=[(true,aD)]) (y:=kW d (3,x)) z3 ?_;refine aF (s:=[(false,.int .i64)]) (y:=fK (kW d (3,x)) m) (gU ..) ?_;exact lF (λh=>lift ((fI hk h5 hE hth hus).trans (if_neg h)) _ rfl) λh=>lift ((fI hk h5 hE hth hus).trans (if_pos h)) _ rfl
def OX (a0:aB) (a1:aI) (a2:iII×iII×bR×a8×bU×aQ×bI):List T:=[aG true aD a0,aG true aK a1,aG true aM (7,a2)]
noncomputable def AX7:Env:=Env.of [(93,.pure cL),(195,.pure WY),(197,.pure FE),(69,.pure fY),(198,.pure WI),(65,.pure dB)]
def BFU:FuncId->Hint:=λ_=>bA
def BAL:aU Tryz.prog AX7:=.cons jZ (.cons BIV (.cons APR (.cons oW (.cons BIE (.cons lA (.nil _))))))
def AZ8(a0:aB)(a1:aI)(a2:iII×iII×bR×a8×bU×aQ×bI)(R:T->Prop):Prop:=aJ [(true,aM)] (WY [(aG true aM (7,a2))]) λ(y0:aV)=>aJ BSU (cL [(aG true aM (7,a2)), aG true aM y0]) λ(y1:Bool)=>aC (!y1) (R (T.cE BSS)) (aJ [(true,bD),(false,Sy.bool)] (FE [aG true aD a0,pPQ a2.2.2.2.2.1.1]) λ(y2:bU×Bool)=>aC y2.2 (R (T.cE BSY)) (aJ [(true,aD)] (fY [aG true aD a0]) λ(y3:aB)=>aJ [(true,aD)] (WI [aG true aD y3, (aG true aM (7,a2))]) λ(y4:aB)=>BS9 y4 a1 R))
def AZ9 ( a0 a1 a2 R):eX cD Tryz.prog AX7 BFU 8 66 (OX a0 a1 a2) R=AZ8 a0 a1 a2 R:=by kernel_rfl
noncomputable def AOC (x:pP):Option T:=match okX x.1 (7,x.2.2) with
 | true=>some (Sh.enc [(true,aD),(false,.int .i64)] (bK x.1 x.2.1 (7,x.2.2)))
 | false=>none
def ARJ (x y:pP) (h:OX x.1 x.2.1 x.2.2=OX y.1 y.2.1 y.2.2):x=y:=mD 7 x y h
noncomputable def A4V:List T->Option (T):=gA (λ(x:aB×aI×iII×iII×bR×a8×bU×aQ×bI)=>OX x.1 x.2.1 x.2.2) AOC
def A4W (a0:aB) (a1:aI) (a2:iII×iII×bR×a8×bU×aQ×bI):A4V (OX a0 a1 a2)=AOC (a0,a1,a2):=gG (A:=(λ(x:aB×aI×iII×iII×bR×a8×bU×aQ×bI)=>OX x.1 x.2.1 x.2.2)) ARJ (a0,a1,a2)
def BKA (h:∀ (a0:aB) (a1:aI) (a2:iII×iII×bR×a8×bU×aQ×bI) (r:T),AOC (a0,a1,a2)=some r->(∀ t∈OX a0 a1 a2,Bd t)->AZ8 a0 a1 a2 (λy=>y=r)):aP Tryz.prog 66 A4V :=
 cZ (E:=AX7) (Hs:=BFU) BAL aY a6 (aO rfl) 8 ⟨_,_,Tryz.func66,rfl⟩ λx r h1 h2=>by
  rw[AZ9];exact h x.1 x.2.1 x.2.2 r h1 h2
def BH7:aP Tryz.prog 66 A4V:=BKA λd m x r h hb=>by
 clear hb;obtain ⟨hp,rfl⟩:=jR h;clear h;obtain ⟨hc,ho1,ho2⟩:=mH hp;have c:=eN hc;have is:∀ {a:aB×Int},bK d m (7,x)=a->Sh.enc [(true,aD),(false,.int .i64)] a=Sh.enc [(true,aD),(false,.int .i64)] (bK d m (7,x)):=λh=>by rw[h]
 have hk:(1:Int)<=((7,x):aV).1/\((7,x):aV).1<=12:=by dsimp only;omega
 have h5:¬ ((7,x):aV).1=5:=by dsimp only;omega
 have lift:∀ {a:aB×Int},bK d m (7,x)=a->∀ v,v=Sh.enc [(true,aD),(false,.int .i64)] a->v=Sh.enc [(true,aD),(false,.int .i64)] (bK d m (7,x)):=λh v hv=>by rw[h];exact hv
 unfold AZ8 BS9 BSY BSU BSS BSR BSP;have z1:WY [aG true aM (7,x)]=some (Sh.enc [(true,aM)] (bY (7,x))):=(A5J ..).trans rfl;refine aF (s:=[(true,aM)]) (y:=bY (7,x)) z1 ?_;have z2:cL [aG true aM (7,x),aG true aM (bY (7,x))]=some (Sh.enc jJ (lX (7,x) (bY (7,x)))):=fZ ..;refine aF (s:=jJ) (y:=lX (7,x) (bY (7,x))) z2 ?_;refine fJ (λh=>lift (mE hk h) _ rfl) λhE=>?_;refine aF (s:=[(true,bD),(false,.bool)]) (y:=found iT (pW d (p8 (7,x)).1)) (W7 ..) ?_;have ht:dY d (7,x)=(found iT (pW d (p8 (7,x)).1)).2:=(iK ..).symm;have hus:lQ d (7,x)=false:=rfl;refine sX (λh=>lift (uJ hk h5 hE rfl (ht.trans h)) _ rfl) λh=>?_;have hth:dY d (7,x) = !lL (7,x):=ht.trans h;refine aF (s:=[(true,aD)]) (y:=d) ((iL ..).trans (dN hc)) ?_;have z3:WI [aG true aD d,aG true aM (7,x)]=some (Sh.enc [(true,aD)] (kW d (7,x))):=(A45 ..).trans (dN hc);refine aF (s:=[(true,aD)]) (y:=kW d (7,x)) z3 ?_;refine aF (s:=[(false,.int .i64)]) (y:=fK (kW d (7,x)) m) (gU ..) ?_;exact lF (λh=>lift ((fI hk h5 hE hth hus).trans (if_neg h)) _ rfl) λh=>lift ((fI hk h5 hE hth hus).trans (if_pos h)) _ rfl
def OZ (a0:aB) (a1:aI) (a2:iII×iII×bR×a8×bU×aQ×bI):List T:=[aG true aD a0,aG true aK a1,aG true aM (9,a2)]
noncomputable def AX9:Env:=Env.of [(93,.pure cL),(215,.pure W0),(217,.pure FC),(69,.pure fY),(218,.pure WK),(65,.pure dB)]
def BFW:FuncId->Hint:=λ_=>bA
def BAN:aU Tryz.prog AX9:=.cons jZ (.cons BIX (.cons APO (.cons oW (.cons BIG (.cons lA (.nil _))))))
def A0C(a0:aB)(a1:aI)(a2:iII×iII×bR×a8×bU×aQ×bI)(R:T->Prop):Prop:=aJ [(true,aM)] (W0 [(aG true aM (9,a2))]) λ(y0:aV)=>aJ BSU (cL [(aG true aM (9,a2)), aG true aM y0]) λ(y1:Bool)=>aC (!y1) (R (T.cE BSS)) (aJ [(true,aH),(false,Sy.bool)] (FC [aG true aD a0,pPQ a2.2.2.2.2.2.1.1]) λ(y2:aQ×Bool)=>aC y2.2 (R (T.cE BSY)) (aJ [(true,aD)] (fY [aG true aD a0]) λ(y3:aB)=>aJ [(true,aD)] (WK [aG true aD y3, (aG true aM (9,a2))]) λ(y4:aB)=>BS9 y4 a1 R))
def A0D ( a0 a1 a2 R):eX cD Tryz.prog AX9 BFW 8 66 (OZ a0 a1 a2) R=A0C a0 a1 a2 R:=by kernel_rfl
noncomputable def AOE (x:pP):Option T:=match okX x.1 (9,x.2.2) with
 | true=>some (Sh.enc [(true,aD),(false,.int .i64)] (bK x.1 x.2.1 (9,x.2.2)))
 | false=>none
def ARL (x y:pP) (h:OZ x.1 x.2.1 x.2.2=OZ y.1 y.2.1 y.2.2):x=y:=mD 9 x y h
noncomputable def A4Z:List T->Option (T):=gA (λ(x:aB×aI×iII×iII×bR×a8×bU×aQ×bI)=>OZ x.1 x.2.1 x.2.2) AOE
def A40 (a0:aB) (a1:aI) (a2:iII×iII×bR×a8×bU×aQ×bI):A4Z (OZ a0 a1 a2)=AOE (a0,a1,a2):=gG (A:=(λ(x:aB×aI×iII×iII×bR×a8×bU×aQ×bI)=>OZ x.1 x.2.1 x.2.2)) ARL (a0,a1,a2)
def BKC (h:∀ (a0:aB) (a1:aI) (a2:iII×iII×bR×a8×bU×aQ×bI) (r:T),AOE (a0,a1,a2)=some r->(∀ t∈OZ a0 a1 a2,Bd t)->A0C a0 a1 a2 (λy=>y=r)):aP Tryz.prog 66 A4Z :=
 cZ (E:=AX9) (Hs:=BFW) BAN aY a6 (aO rfl) 8 ⟨_,_,Tryz.func66,rfl⟩ λx r h1 h2=>by
  rw[A0D];exact h x.1 x.2.1 x.2.2 r h1 h2
def BH9:aP Tryz.prog 66 A4Z:=BKC λd m x r h hb=>by
 clear hb;obtain ⟨hp,rfl⟩:=jR h;clear h;obtain ⟨hc,ho1,ho2⟩:=mH hp;have c:=eN hc;have is:∀ {a:aB×Int},bK d m (9,x)=a->Sh.enc [(true,aD),(false,.int .i64)] a=Sh.enc [(true,aD),(false,.int .i64)] (bK d m (9,x)):=λh=>by rw[h]
 have hk:(1:Int)<=((9,x):aV).1/\((9,x):aV).1<=12:=by dsimp only;omega
 have h5:¬ ((9,x):aV).1=5:=by dsimp only;omega
 have lift:∀ {a:aB×Int},bK d m (9,x)=a->∀ v,v=Sh.enc [(true,aD),(false,.int .i64)] a->v=Sh.enc [(true,aD),(false,.int .i64)] (bK d m (9,x)):=λh v hv=>by rw[h];exact hv
 unfold A0C BS9 BSY BSU BSS BSR BSP;have z1:W0 [aG true aM (9,x)]=some (Sh.enc [(true,aM)] (bY (9,x))):=(A5L ..).trans rfl;refine aF (s:=[(true,aM)]) (y:=bY (9,x)) z1 ?_;have z2:cL [aG true aM (9,x),aG true aM (bY (9,x))]=some (Sh.enc jJ (lX (9,x) (bY (9,x)))):=fZ ..;refine aF (s:=jJ) (y:=lX (9,x) (bY (9,x))) z2 ?_;refine fJ (λh=>lift (mE hk h) _ rfl) λhE=>?_;refine aF (s:=[(true,aH),(false,.bool)]) (y:=found noPack (jB d (iN (9,x)).1)) ((WO ..).trans (AHC _ c.LJ)) ?_;have ht:dY d (9,x)=(found noPack (jB d (iN (9,x)).1)).2:=(iK ..).symm;have hus:lQ d (9,x)=false:=rfl;refine sX (λh=>lift (uJ hk h5 hE rfl (ht.trans h)) _ rfl) λh=>?_;have hth:dY d (9,x) = !lL (9,x):=ht.trans h;refine aF (s:=[(true,aD)]) (y:=d) ((iL ..).trans (dN hc)) ?_;have z3:WK [aG true aD d,aG true aM (9,x)]=some (Sh.enc [(true,aD)] (kW d (9,x))):=(A47 ..).trans (dN (by rw[hc,ho2];rfl));refine aF (s:=[(true,aD)]) (y:=kW d (9,x)) z3 ?_;refine aF (s:=[(false,.int .i64)]) (y:=fK (kW d (9,x)) m) (gU ..) ?_;exact lF (λh=>lift ((fI hk h5 hE hth hus).trans (if_neg h)) _ rfl) λh=>lift ((fI hk h5 hE hth hus).trans (if_pos h)) _ rfl
def OS (a0:aB) (a1:aI) (a2:iII×iII×bR×a8×bU×aQ×bI):List T:=[aG true aD a0,aG true aK a1,aG true aM (2,a2)]
noncomputable def AX2:Env:=Env.of [(93,.pure cL),(155,.pure WT),(149,.pure FB),(138,.pure BU),(69,.pure fY),(157,.pure WE),(65,.pure dB)]
def BFP:FuncId->Hint:=λ_=>bA
def BAG:aU Tryz.prog AX2:=.cons jZ (.cons BIQ (.cons APN (.cons A4D (.cons oW (.cons BIB (.cons lA (.nil _)))))))
def BSW:List T:=[T.agg BSP, pPP 8]
def BSX:List T:=[T.agg BSP, pPP 34]
def AZY(a0:aB)(a1:aI)(a2:iII×iII×bR×a8×bU×aQ×bI)(R:T->Prop):Prop:=aJ [(true,aM)] (WT [(aG true aM (2,a2))]) λ(y0:aV)=>aJ BSU (cL [(aG true aM (2,a2)), aG true aM y0]) λ(y1:Bool)=>aC (!y1) (R (T.cE BSS)) (aJ [(true,bC),(false,Sy.bool)] (FB [aG true aD a0,pPQ a2.1]) λ(y2:bR×Bool)=>aC (!y2.2) (R (T.cE BSW)) (aJ BSU (BU [aG true aD a0, (aG true aM (2,a2))]) λ(y3:Bool)=>aC y3 (R (T.cE BSX)) (aJ [(true,aD)] (fY [aG true aD a0]) λ(y4:aB)=>aJ [(true,aD)] (WE [aG true aD y4, (aG true aM (2,a2))]) λ(y5:aB)=>BS9 y5 a1 R)))
def AZZ ( a0 a1 a2 R):eX cD Tryz.prog AX2 BFP 8 66 (OS a0 a1 a2) R=AZY a0 a1 a2 R:=by kernel_rfl
noncomputable def AN7 (x:pP):Option T:=match okX x.1 (2,x.2.2) with
 | true=>some (Sh.enc [(true,aD),(false,.int .i64)] (bK x.1 x.2.1 (2,x.2.2)))
 | false=>none
def ARE (x y:pP) (h:OS x.1 x.2.1 x.2.2=OS y.1 y.2.1 y.2.2):x=y:=mD 2 x y h
noncomputable def A4L:List T->Option (T):=gA (λ(x:aB×aI×iII×iII×bR×a8×bU×aQ×bI)=>OS x.1 x.2.1 x.2.2) AN7
def A4M (a0:aB) (a1:aI) (a2:iII×iII×bR×a8×bU×aQ×bI):A4L (OS a0 a1 a2)=AN7 (a0,a1,a2):=gG (A:=(λ(x:aB×aI×iII×iII×bR×a8×bU×aQ×bI)=>OS x.1 x.2.1 x.2.2)) ARE (a0,a1,a2)
def BJ5 (h:∀ (a0:aB) (a1:aI) (a2:iII×iII×bR×a8×bU×aQ×bI) (r:T),AN7 (a0,a1,a2)=some r->(∀ t∈OS a0 a1 a2,Bd t)->AZY a0 a1 a2 (λy=>y=r)):aP Tryz.prog 66 A4L :=
 cZ (E:=AX2) (Hs:=BFP) BAG aY a6 (aO rfl) 8 ⟨_,_,Tryz.func66,rfl⟩ λx r h1 h2=>by
  rw[AZZ];exact h x.1 x.2.1 x.2.2 r h1 h2
def BH2:aP Tryz.prog 66 A4L:=BJ5 λd m x r h hb=>by
 clear hb;obtain ⟨hp,rfl⟩:=jR h;clear h;obtain ⟨hc,ho1,ho2⟩:=mH hp;have c:=eN hc;have is:∀ {a:aB×Int},bK d m (2,x)=a->Sh.enc [(true,aD),(false,.int .i64)] a=Sh.enc [(true,aD),(false,.int .i64)] (bK d m (2,x)):=λh=>by rw[h]
 have hk:(1:Int)<=((2,x):aV).1/\((2,x):aV).1<=12:=by dsimp only;omega
 have h5:¬ ((2,x):aV).1=5:=by dsimp only;omega
 have lift:∀ {a:aB×Int},bK d m (2,x)=a->∀ v,v=Sh.enc [(true,aD),(false,.int .i64)] a->v=Sh.enc [(true,aD),(false,.int .i64)] (bK d m (2,x)):=λh v hv=>by rw[h];exact hv
 unfold AZY BS9 BSX BSW BSU BSS BSR BSP;have z1:WT [aG true aM (2,x)]=some (Sh.enc [(true,aM)] (bY (2,x))):=(A5E ..).trans rfl;refine aF (s:=[(true,aM)]) (y:=bY (2,x)) z1 ?_;have z2:cL [aG true aM (2,x),aG true aM (bY (2,x))]=some (Sh.enc jJ (lX (2,x) (bY (2,x)))):=fZ ..;refine aF (s:=jJ) (y:=lX (2,x) (bY (2,x))) z2 ?_;refine fJ (λh=>lift (mE hk h) _ rfl) λhE=>?_;refine aF (s:=[(true,bC),(false,.bool)]) (y:=found iS (eV d (fC (2,x)))) (WN ..) ?_;have ht:dY d (2,x)=(found iS (eV d (fC (2,x)))).2:=(iK ..).symm;refine fJ (λh=>lift (uI hk h5 hE rfl (ht.trans h)) _ rfl) λh=>?_;have hth:dY d (2,x) = !lL (2,x):=ht.trans h;have z4:BU [aG true aD d,aG true aM (2,x)]=some (Sh.enc jJ (lQ d (2,x))):=(AMD ..).trans (dN hc);refine aF (s:=jJ) (y:=lQ d (2,x)) z4 ?_;refine sX (λh=>lift (GH hk h5 hE hth h) _ rfl) λhus=>?_;refine aF (s:=[(true,aD)]) (y:=d) ((iL ..).trans (dN hc)) ?_;have z3:WE [aG true aD d,aG true aM (2,x)]=some (Sh.enc [(true,aD)] (kW d (2,x))):=(A42 ..).trans (dN hc);refine aF (s:=[(true,aD)]) (y:=kW d (2,x)) z3 ?_;refine aF (s:=[(false,.int .i64)]) (y:=fK (kW d (2,x)) m) (gU ..) ?_;exact lF (λh=>lift ((fI hk h5 hE hth hus).trans (if_neg h)) _ rfl) λh=>lift ((fI hk h5 hE hth hus).trans (if_pos h)) _ rfl
def OU (a0:aB) (a1:aI) (a2:iII×iII×bR×a8×bU×aQ×bI):List T:=[aG true aD a0,aG true aK a1,aG true aM (4,a2)]
noncomputable def AX4:Env:=Env.of [(93,.pure cL),(174,.pure WV),(94,.pure mF),(162,.pure BW),(69,.pure fY),(176,.pure WH),(65,.pure dB)]
def BFR:FuncId->Hint:=λ_=>bA
def BAI:aU Tryz.prog AX4:=.cons jZ (.cons BIS (.cons GX (.cons A4F (.cons oW (.cons BID (.cons lA (.nil _)))))))
def AZ2(a0:aB)(a1:aI)(a2:iII×iII×bR×a8×bU×aQ×bI)(R:T->Prop):Prop:=aJ [(true,aM)] (WV [(aG true aM (4,a2))]) λ(y0:aV)=>aJ BSU (cL [(aG true aM (4,a2)), aG true aM y0]) λ(y1:Bool)=>aC (!y1) (R (T.cE BSS)) (aJ BSZ (mF [aG true aD a0,pPQ a2.1]) λ(y2:a8×Bool)=>aC (!y2.2) (R (T.cE BSW)) (aJ BSU (BW [aG true aD a0, (aG true aM (4,a2))]) λ(y3:Bool)=>aC y3 (R (T.cE BSX)) (aJ [(true,aD)] (fY [aG true aD a0]) λ(y4:aB)=>aJ [(true,aD)] (WH [aG true aD y4, (aG true aM (4,a2))]) λ(y5:aB)=>BS9 y5 a1 R)))
def AZ3 ( a0 a1 a2 R):eX cD Tryz.prog AX4 BFR 8 66 (OU a0 a1 a2) R=AZ2 a0 a1 a2 R:=by kernel_rfl
noncomputable def AN9 (x:pP):Option T:=match okX x.1 (4,x.2.2) with
 | true=>some (Sh.enc [(true,aD),(false,.int .i64)] (bK x.1 x.2.1 (4,x.2.2)))
 | false=>none
def ARG (x y:pP) (h:OU x.1 x.2.1 x.2.2=OU y.1 y.2.1 y.2.2):x=y:=mD 4 x y h
noncomputable def A4P:List T->Option (T):=gA (λ(x:aB×aI×iII×iII×bR×a8×bU×aQ×bI)=>OU x.1 x.2.1 x.2.2) AN9
def A4Q (a0:aB) (a1:aI) (a2:iII×iII×bR×a8×bU×aQ×bI):A4P (OU a0 a1 a2)=AN9 (a0,a1,a2):=gG (A:=(λ(x:aB×aI×iII×iII×bR×a8×bU×aQ×bI)=>OU x.1 x.2.1 x.2.2)) ARG (a0,a1,a2)
def BJ7 (h:∀ (a0:aB) (a1:aI) (a2:iII×iII×bR×a8×bU×aQ×bI) (r:T),AN9 (a0,a1,a2)=some r->(∀ t∈OU a0 a1 a2,Bd t)->AZ2 a0 a1 a2 (λy=>y=r)):aP Tryz.prog 66 A4P :=
 cZ (E:=AX4) (Hs:=BFR) BAI aY a6 (aO rfl) 8 ⟨_,_,Tryz.func66,rfl⟩ λx r h1 h2=>by
  rw[AZ3];exact h x.1 x.2.1 x.2.2 r h1 h2
def BH4:aP Tryz.prog 66 A4P:=BJ7 λd m x r h hb=>by
 clear hb;obtain ⟨hp,rfl⟩:=jR h;clear h;obtain ⟨hc,ho1,ho2⟩:=mH hp;have c:=eN hc;have is:∀ {a:aB×Int},bK d m (4,x)=a->Sh.enc [(true,aD),(false,.int .i64)] a=Sh.enc [(true,aD),(false,.int .i64)] (bK d m (4,x)):=λh=>by rw[h]
 have hk:(1:Int)<=((4,x):aV).1/\((4,x):aV).1<=12:=by dsimp only;omega
 have h5:¬ ((4,x):aV).1=5:=by dsimp only;omega
 have lift:∀ {a:aB×Int},bK d m (4,x)=a->∀ v,v=Sh.enc [(true,aD),(false,.int .i64)] a->v=Sh.enc [(true,aD),(false,.int .i64)] (bK d m (4,x)):=λh v hv=>by rw[h];exact hv
 unfold AZ2 BS9 BSZ BSX BSW BSU BSS BSR BSP;have z1:WV [aG true aM (4,x)]=some (Sh.enc [(true,aM)] (bY (4,x))):=(A5G ..).trans rfl;refine aF (s:=[(true,aM)]) (y:=bY (4,x)) z1 ?_;have z2:cL [aG true aM (4,x),aG true aM (bY (4,x))]=some (Sh.enc jJ (lX (4,x) (bY (4,x)))):=fZ ..;refine aF (s:=jJ) (y:=lX (4,x) (bY (4,x))) z2 ?_;refine fJ (λh=>lift (mE hk h) _ rfl) λhE=>?_;refine aF (s:=[(true,aN),(false,.bool)]) (y:=found eJ (partOf d (fC (4,x)))) ((rP ..).trans (by unfold mA;dsimp only;rw[c.NJ];rfl)) ?_;have ht:dY d (4,x)=(found eJ (partOf d (fC (4,x)))).2:=(iK ..).symm;refine fJ (λh=>lift (uI hk h5 hE rfl (ht.trans h)) _ rfl) λh=>?_;have hth:dY d (4,x) = !lL (4,x):=ht.trans h;have z4:BW [aG true aD d,aG true aM (4,x)]=some (Sh.enc jJ (lQ d (4,x))):=(AMF ..).trans (dN hc);refine aF (s:=jJ) (y:=lQ d (4,x)) z4 ?_;refine sX (λh=>lift (GH hk h5 hE hth h) _ rfl) λhus=>?_;refine aF (s:=[(true,aD)]) (y:=d) ((iL ..).trans (dN hc)) ?_;have z3:WH [aG true aD d,aG true aM (4,x)]=some (Sh.enc [(true,aD)] (kW d (4,x))):=(A44 ..).trans (dN hc);refine aF (s:=[(true,aD)]) (y:=kW d (4,x)) z3 ?_;refine aF (s:=[(false,.int .i64)]) (y:=fK (kW d (4,x)) m) (gU ..) ?_;exact lF (λh=>lift ((fI hk h5 hE hth hus).trans (if_neg h)) _ rfl) λh=>lift ((fI hk h5 hE hth hus).trans (if_pos h)) _ rfl
def OY (a0:aB) (a1:aI) (a2:iII×iII×bR×a8×bU×aQ×bI):List T:=[aG true aD a0,aG true aK a1,aG true aM (8,a2)]
noncomputable def AX8:Env:=Env.of [(93,.pure cL),(203,.pure WZ),(197,.pure FE),(183,.pure j1),(69,.pure fY),(205,.pure WJ),(65,.pure dB)]
def BFV:FuncId->Hint:=λ_=>bA
def BAM:aU Tryz.prog AX8:=.cons jZ (.cons BIW (.cons APR (.cons uR (.cons oW (.cons BIF (.cons lA (.nil _)))))))
def A0A(a0:aB)(a1:aI)(a2:iII×iII×bR×a8×bU×aQ×bI)(R:T->Prop):Prop:=aJ [(true,aM)] (WZ [(aG true aM (8,a2))]) λ(y0:aV)=>aJ BSU (cL [(aG true aM (8,a2)), aG true aM y0]) λ(y1:Bool)=>aC (!y1) (R (T.cE BSS)) (aJ [(true,bD),(false,Sy.bool)] (FE [aG true aD a0,pPQ a2.1]) λ(y2:bU×Bool)=>aC (!y2.2) (R (T.cE BSW)) (aJ BSU (j1 [aG true aD a0, (aG true aM (8,a2))]) λ(y3:Bool)=>aC y3 (R (T.cE BSX)) (aJ [(true,aD)] (fY [aG true aD a0]) λ(y4:aB)=>aJ [(true,aD)] (WJ [aG true aD y4, (aG true aM (8,a2))]) λ(y5:aB)=>BS9 y5 a1 R)))
def A0B ( a0 a1 a2 R):eX cD Tryz.prog AX8 BFV 8 66 (OY a0 a1 a2) R=A0A a0 a1 a2 R:=by kernel_rfl
noncomputable def AOD (x:pP):Option T:=match okX x.1 (8,x.2.2) with
 | true=>some (Sh.enc [(true,aD),(false,.int .i64)] (bK x.1 x.2.1 (8,x.2.2)))
 | false=>none
def ARK (x y:pP) (h:OY x.1 x.2.1 x.2.2=OY y.1 y.2.1 y.2.2):x=y:=mD 8 x y h
noncomputable def A4X:List T->Option (T):=gA (λ(x:aB×aI×iII×iII×bR×a8×bU×aQ×bI)=>OY x.1 x.2.1 x.2.2) AOD
def A4Y (a0:aB) (a1:aI) (a2:iII×iII×bR×a8×bU×aQ×bI):A4X (OY a0 a1 a2)=AOD (a0,a1,a2):=gG (A:=(λ(x:aB×aI×iII×iII×bR×a8×bU×aQ×bI)=>OY x.1 x.2.1 x.2.2)) ARK (a0,a1,a2)
def BKB (h:∀ (a0:aB) (a1:aI) (a2:iII×iII×bR×a8×bU×aQ×bI) (r:T),AOD (a0,a1,a2)=some r->(∀ t∈OY a0 a1 a2,Bd t)->A0A a0 a1 a2 (λy=>y=r)):aP Tryz.prog 66 A4X :=
 cZ (E:=AX8) (Hs:=BFV) BAM aY a6 (aO rfl) 8 ⟨_,_,Tryz.func66,rfl⟩ λx r h1 h2=>by
  rw[A0B];exact h x.1 x.2.1 x.2.2 r h1 h2
def BH8:aP Tryz.prog 66 A4X:=BKB λd m x r h hb=>by
 clear hb;obtain ⟨hp,rfl⟩:=jR h;clear h;obtain ⟨hc,ho1,ho2⟩:=mH hp;have c:=eN hc;have is:∀ {a:aB×Int},bK d m (8,x)=a->Sh.enc [(true,aD),(false,.int .i64)] a=Sh.enc [(true,aD),(false,.int .i64)] (bK d m (8,x)):=λh=>by rw[h]
 have hk:(1:Int)<=((8,x):aV).1/\((8,x):aV).1<=12:=by dsimp only;omega
 have h5:¬ ((8,x):aV).1=5:=by dsimp only;omega
 have lift:∀ {a:aB×Int},bK d m (8,x)=a->∀ v,v=Sh.enc [(true,aD),(false,.int .i64)] a->v=Sh.enc [(true,aD),(false,.int .i64)] (bK d m (8,x)):=λh v hv=>by rw[h];exact hv
 unfold A0A BS9 BSX BSW BSU BSS BSR BSP;have z1:WZ [aG true aM (8,x)]=some (Sh.enc [(true,aM)] (bY (8,x))):=(A5K ..).trans rfl;refine aF (s:=[(true,aM)]) (y:=bY (8,x)) z1 ?_;have z2:cL [aG true aM (8,x),aG true aM (bY (8,x))]=some (Sh.enc jJ (lX (8,x) (bY (8,x)))):=fZ ..;refine aF (s:=jJ) (y:=lX (8,x) (bY (8,x))) z2 ?_;refine fJ (λh=>lift (mE hk h) _ rfl) λhE=>?_;refine aF (s:=[(true,bD),(false,.bool)]) (y:=found iT (pW d (fC (8,x)))) (W7 ..) ?_;have ht:dY d (8,x)=(found iT (pW d (fC (8,x)))).2:=(iK ..).symm;refine fJ (λh=>lift (uI hk h5 hE rfl (ht.trans h)) _ rfl) λh=>?_;have hth:dY d (8,x) = !lL (8,x):=ht.trans h;have z4:j1 [aG true aD d,aG true aM (8,x)]=some (Sh.enc jJ (lQ d (8,x))):=(M9 ..).trans (rfl);refine aF (s:=jJ) (y:=lQ d (8,x)) z4 ?_;refine sX (λh=>lift (GH hk h5 hE hth h) _ rfl) λhus=>?_;refine aF (s:=[(true,aD)]) (y:=d) ((iL ..).trans (dN hc)) ?_;have z3:WJ [aG true aD d,aG true aM (8,x)]=some (Sh.enc [(true,aD)] (kW d (8,x))):=(A46 ..).trans (dN hc);refine aF (s:=[(true,aD)]) (y:=kW d (8,x)) z3 ?_;refine aF (s:=[(false,.int .i64)]) (y:=fK (kW d (8,x)) m) (gU ..) ?_;exact lF (λh=>lift ((fI hk h5 hE hth hus).trans (if_neg h)) _ rfl) λh=>lift ((fI hk h5 hE hth hus).trans (if_pos h)) _ rfl
def EF (a0:aB) (a1:aI) (a2:iII×iII×bR×a8×bU×aQ×bI):List T:=[aG true aD a0,aG true aK a1,aG true aM (10,a2)]
noncomputable def AIF:Env:=Env.of [(93,.pure cL),(224,.pure KO),(217,.pure FC),(210,.pure BV),(69,.pure fY),(226,.pure KM),(65,.pure dB)]
def A1H:FuncId->Hint:=λ_=>bA
def AZA:aU Tryz.prog AIF:=.cons jZ (.cons BDJ (.cons APO (.cons A4E (.cons oW (.cons BC5 (.cons lA (.nil _)))))))
def AJO(a0:aB)(a1:aI)(a2:iII×iII×bR×a8×bU×aQ×bI)(R:T->Prop):Prop:=aJ [(true,aM)] (KO [(aG true aM (10,a2))]) λ(y0:aV)=>aJ BSU (cL [(aG true aM (10,a2)), aG true aM y0]) λ(y1:Bool)=>aC (!y1) (R (T.cE BSS)) (aJ [(true,aH),(false,Sy.bool)] (FC [aG true aD a0,pPQ a2.1]) λ(y2:aQ×Bool)=>aC (!y2.2) (R (T.cE BSW)) (aJ BSU (BV [aG true aD a0, (aG true aM (10,a2))]) λ(y3:Bool)=>aC y3 (R (T.cE BSX)) (aJ [(true,aD)] (fY [aG true aD a0]) λ(y4:aB)=>aJ [(true,aD)] (KM [aG true aD y4, (aG true aM (10,a2))]) λ(y5:aB)=>BS9 y5 a1 R)))
def ASQ ( a0 a1 a2 R):eX cD Tryz.prog AIF A1H 8 66 (EF a0 a1 a2) R=AJO a0 a1 a2 R:=by kernel_rfl
noncomputable def AB6 (x:pP):Option T:=match okX x.1 (10,x.2.2) with
 | true=>some (Sh.enc [(true,aD),(false,.int .i64)] (bK x.1 x.2.1 (10,x.2.2)))
 | false=>none
def AH8 (x y:pP) (h:EF x.1 x.2.1 x.2.2=EF y.1 y.2.1 y.2.2):x=y:=mD 10 x y h
noncomputable def ALT:List T->Option (T):=gA (λ(x:aB×aI×iII×iII×bR×a8×bU×aQ×bI)=>EF x.1 x.2.1 x.2.2) AB6
def AUY (a0:aB) (a1:aI) (a2:iII×iII×bR×a8×bU×aQ×bI):ALT (EF a0 a1 a2)=AB6 (a0,a1,a2):=gG (A:=(λ(x:aB×aI×iII×iII×bR×a8×bU×aQ×bI)=>EF x.1 x.2.1 x.2.2)) AH8 (a0,a1,a2)
def BEH (h:∀ (a0:aB) (a1:aI) (a2:iII×iII×bR×a8×bU×aQ×bI) (r:T),AB6 (a0,a1,a2)=some r->(∀ t∈EF a0 a1 a2,Bd t)->AJO a0 a1 a2 (λy=>y=r)):aP Tryz.prog 66 ALT :=
 cZ (E:=AIF) (Hs:=A1H) AZA aY a6 (aO rfl) 8 ⟨_,_,Tryz.func66,rfl⟩ λx r h1 h2=>by
  rw[ASQ];exact h x.1 x.2.1 x.2.2 r h1 h2
def BCW:aP Tryz.prog 66 ALT:=BEH λd m x r h hb=>by
 clear hb;obtain ⟨hp,rfl⟩:=jR h;clear h;obtain ⟨hc,ho1,ho2⟩:=mH hp;have c:=eN hc;have is:∀ {a:aB×Int},bK d m (10,x)=a->Sh.enc [(true,aD),(false,.int .i64)] a=Sh.enc [(true,aD),(false,.int .i64)] (bK d m (10,x)):=λh=>by rw[h]
 have hk:(1:Int)<=((10,x):aV).1/\((10,x):aV).1<=12:=by dsimp only;omega
 have h5:¬ ((10,x):aV).1=5:=by dsimp only;omega
 have lift:∀ {a:aB×Int},bK d m (10,x)=a->∀ v,v=Sh.enc [(true,aD),(false,.int .i64)] a->v=Sh.enc [(true,aD),(false,.int .i64)] (bK d m (10,x)):=λh v hv=>by rw[h];exact hv
 unfold AJO BS9 BSX BSW BSU BSS BSR BSP;have z1:KO [aG true aM (10,x)]=some (Sh.enc [(true,aM)] (bY (10,x))):=(AVB ..).trans rfl;refine aF (s:=[(true,aM)]) (y:=bY (10,x)) z1 ?_;have z2:cL [aG true aM (10,x),aG true aM (bY (10,x))]=some (Sh.enc jJ (lX (10,x) (bY (10,x)))):=fZ ..;refine aF (s:=jJ) (y:=lX (10,x) (bY (10,x))) z2 ?_;refine fJ (λh=>lift (mE hk h) _ rfl) λhE=>?_;refine aF (s:=[(true,aH),(false,.bool)]) (y:=found noPack (jB d (fC (10,x)))) ((WO ..).trans (AHC _ c.LJ)) ?_;have ht:dY d (10,x)=(found noPack (jB d (fC (10,x)))).2:=(iK ..).symm;refine fJ (λh=>lift (uI hk h5 hE rfl (ht.trans h)) _ rfl) λh=>?_;have hth:dY d (10,x) = !lL (10,x):=ht.trans h;have z4:BV [aG true aD d,aG true aM (10,x)]=some (Sh.enc jJ (lQ d (10,x))):=(AME ..).trans (dN hc);refine aF (s:=jJ) (y:=lQ d (10,x)) z4 ?_;refine sX (λh=>lift (GH hk h5 hE hth h) _ rfl) λhus=>?_;refine aF (s:=[(true,aD)]) (y:=d) ((iL ..).trans (dN hc)) ?_;have z3:KM [aG true aD d,aG true aM (10,x)]=some (Sh.enc [(true,aD)] (kW d (10,x))):=(AU7 ..).trans (dN hc);refine aF (s:=[(true,aD)]) (y:=kW d (10,x)) z3 ?_;refine aF (s:=[(false,.int .i64)]) (y:=fK (kW d (10,x)) m) (gU ..) ?_;exact lF (λh=>lift ((fI hk h5 hE hth hus).trans (if_neg h)) _ rfl) λh=>lift ((fI hk h5 hE hth hus).trans (if_pos h)) _ rfl
def ifC {p q s:Prop} {i:Decidable p} {j:Decidable q} {k:Decidable s} {A B:Prop} (h1:p/\q/\s->A) (h2:¬ (p/\q/\s)->B):aC (@decide p i&&(@decide q j&&(@decide s k&&true))) A B:=by
 by_cases h:p/\q/\s
 ·rw[ai h.1,ai h.2.1,ai h.2.2];exact h1 h
 ·have:(@decide p i&&(@decide q j&&(@decide s k&&true)))=false:=by
   rw[Bool.eq_false_iff];intro e;simp only[ac,ah,and_true] at e;exact h e
  rw[this];exact h2 h
def B1 {a b:bI}:(a.1=b.1/\a.2.1=b.2.1/\a.2.2=b.2.2)↔a=b:=by
 simp only[Prod.ext_iff]
def EG (a0:aB) (a1:aI) (a2:iII×iII×bR×a8×bU×aQ×bI):List T:=[aG true aD a0,aG true aK a1,aG true aM (11,a2)]
noncomputable def AIH:Env:=Env.of [(93,.pure cL),(230,.pure wM),(183,.pure j1),(69,.pure fY),(234,.pure rO),(105,.dup 3 40),(298,.grow 3 lC),(299,.grow 3 BS),(65,.pure dB)]
def A1I:FuncId->Hint:=b8 278 [(2,.inv [.val 8 false (.int .i64)])] (b8 294 [(2,.inv [.val 8 false (.int .i64)])] (λ_=>bA))
def AZB:aU Tryz.prog AIH:=.cons jZ (.cons APQ (.cons uR (.cons oW (.cons V3 (aU.cons (x:=.dup 3 40) E1 (.cons RN (.cons RL (.cons lA (.nil _)))))))))
def BSQ:List T:=[pPQ ({data:=#[]}),T.sl false [], T.sl false [],T.sl false [],T.sl false [], T.sl false []]
def BT2(R:T->Prop)(y10:Int):Prop:=R (T.cE [T.agg BSQ, pPP y10])
def BTC(y3:aB):List (List T):=List.map aN.enc y3.2.2.1
def BTR(y3:aB):List (List T):=List.map aH.enc y3.2.2.2.2.1
def BTT(y3:aB):List (List T):=List.map bD.enc y3.2.2.2.1
def BTW(y3:aB):List (List T):=List.map bC.enc y3.2.1
def BT6(y5:aB)(y10:List bI):List T:=[pPQ y5.1, T.sl false (BTW y5), T.sl false (BTC y5), T.sl false (BTT y5), T.sl false (BTR y5), T.sl false (List.map aZ.enc y10)]
def BS2(y5:aB)(y10:List bI)(a1:aI)(R:T->Prop):Prop:=aJ BSR (dB [T.agg (BT6 y5 y10), aG true aK a1]) λ(y11:Int)=>aC (!decide (y11=0)) (BT2 R y11) (R (T.cE [T.agg (BT6 y5 y10), pPP 0]))
def BS8(a0:aB):List (List T):=List.map aZ.enc a0.2.2.2.2.2
def BUH(a2:iII×iII×bR×a8×bU×aQ×bI):List T:=[pPP a2.2.2.2.2.2.2.1, pPQ a2.2.2.2.2.2.2.2.1, pPQ a2.2.2.2.2.2.2.2.2]
def BTI(y5:aB)(a2:iII×iII×bR×a8×bU×aQ×bI)(a1:aI)(R:T->Prop):Prop:=bW aZ (lC (BS8 y5) [pPP (↑(BS8 y5).length:Int), T.sl true [(BUH a2)]]) λ(y14:List bI)=>BS2 y5 y14 a1 R
def BTZ(X2:Int×PUnit->Prop)(s3:Int×PUnit):Prop:=X2 (i64.wrap (s3.1+1),())
def BTA(y9:Bool)(s7:Int×PUnit)(y5:aB)(a2:iII×iII×bR×a8×bU×aQ×bI)(a1:aI)(R:T->Prop)(X6:Int×PUnit->Prop):Prop:=aC y9 (aC (decide (s7.1<0)) (bL (((BS8 y5).all λ(r:List T)=>decide (r.length=3)) && decide ((BS8 y5).length*40 <= 140737488355328) && decide ((BS8 y5).length<=140737488355328)) (BTI y5 a2 a1 R)) (bL (((BS8 y5).all λ(r:List T)=>decide (r.length=3)) && decide ((BS8 y5).length*40 <= 140737488355328) && decide ((BS8 y5).length<=140737488355328)) (bW aZ (lC (BS8 y5) [pPP s7.1, T.sl true [(BUH a2)]]) λ(y12:List bI)=>BS2 y5 y12 a1 R))) (BTZ X6 s7)
def BUC(y5:aB)(a2:iII×iII×bR×a8×bU×aQ×bI)(a1:aI)(R:T->Prop):Prop:=bL (((BS8 y5).all λ(r:List T)=>decide (r.length=3)) && decide ((BS8 y5).length*40<=140737488355328) && decide ((BS8 y5).length<=140737488355328)) (BTI y5 a2 a1 R)
def AJP(a0:aB)(a1:aI)(a2:iII×iII×bR×a8×bU×aQ×bI)(R:T->Prop):Prop:=aJ [(true,aM)] (wM [(aG true aM (11,a2))]) λ(y0:aV)=>aJ BSU (cL [(aG true aM (11,a2)), aG true aM y0]) λ(y1:Bool)=>aC (!y1) (R (T.cE BSS)) (bB (Int×PUnit) (λX2 s3=>aC (decide (s3.1<(↑(BS8 a0).length:Int))) (aR aZ (BS8 a0) s3.1 λ(y4:bI)=>aC (decide (a2.2.2.2.2.2.2.1=y4.1) && (decide (a2.2.2.2.2.2.2.2.1=y4.2.1) && (decide (a2.2.2.2.2.2.2.2.2=y4.2.2)&&true))) (aC (decide (0<=s3.1)) (R (T.cE BSY)) (aJ [(true,aD)] (fY [aG true aD a0]) λ(y5:aB)=>bB (Int×PUnit) (λX6 s7=>aC (decide (s7.1<(↑(BS8 y5).length:Int))) (aR aZ (BS8 y5) s7.1 λ(y8:bI)=>aJ BSU (rO [aG true aZ y8, aG true aZ a2.2.2.2.2.2.2]) λ(y9:Bool)=>BTA y9 s7 y5 a2 a1 R X6) (BUC y5 a2 a1 R)) (0,()))) (BTZ X2 s3)) (aJ [(true,aD)] (fY [aG true aD a0]) λ(y16:aB)=>bB (Int×PUnit) (λX17 s18=>aC (decide (s18.1<(↑(BS8 y16).length:Int))) (aR aZ (BS8 y16) s18.1 λ(y19:bI)=>aJ BSU (rO [aG true aZ y19,aG true aZ a2.2.2.2.2.2.2]) λ(y20:Bool)=>BTA y20 s18 y16 a2 a1 R X17) (BUC y16 a2 a1 R)) (0,()))) (0,()))
def ASR ( a0 a1 a2 R):eX cD Tryz.prog AIH A1I 8 66 (EG a0 a1 a2) R=AJP a0 a1 a2 R:=by kernel_rfl
noncomputable def AB7 (x:pP):Option T:=match okX x.1 (11,x.2.2) with
 | true=>some (Sh.enc [(true,aD),(false,.int .i64)] (bK x.1 x.2.1 (11,x.2.2)))
 | false=>none
def AH9 (x y:pP) (h:EG x.1 x.2.1 x.2.2=EG y.1 y.2.1 y.2.2):x=y:=mD 11 x y h
noncomputable def ALU:List T->Option (T):=gA (λ(x:aB×aI×iII×iII×bR×a8×bU×aQ×bI)=>EG x.1 x.2.1 x.2.2) AB7
def AUZ (a0:aB) (a1:aI) (a2:iII×iII×bR×a8×bU×aQ×bI):ALU (EG a0 a1 a2)=AB7 (a0,a1,a2):=gG (A:=(λ(x:aB×aI×iII×iII×bR×a8×bU×aQ×bI)=>EG x.1 x.2.1 x.2.2)) AH9 (a0,a1,a2)
def BEI (h:∀ (a0:aB) (a1:aI) (a2:iII×iII×bR×a8×bU×aQ×bI) (r:T),AB7 (a0,a1,a2)=some r->(∀ t∈EG a0 a1 a2,Bd t)->AJP a0 a1 a2 (λy=>y=r)):aP Tryz.prog 66 ALU :=
 cZ (E:=AIH) (Hs:=A1I) AZB aY a6 (aO rfl) 8 ⟨_,_,Tryz.func66,rfl⟩ λx r h1 h2=>by
  rw[ASR];exact h x.1 x.2.1 x.2.2 r h1 h2
def BCX:aP Tryz.prog 66 ALU:=BEI λd m x r h hb=>by
 clear hb;obtain ⟨hp,rfl⟩:=jR h;clear h;obtain ⟨hc,ho1,ho2⟩:=mH hp;have c:=eN hc;have is:∀ {a:aB×Int},bK d m (11,x)=a->Sh.enc [(true,aD),(false,.int .i64)] a=Sh.enc [(true,aD),(false,.int .i64)] (bK d m (11,x)):=λh=>by rw[h]
 have hk:(1:Int)<=((11,x):aV).1/\((11,x):aV).1<=12:=by dsimp only;omega
 have h5:¬ ((11,x):aV).1=5:=by dsimp only;omega
 have lift:∀ {a:aB×Int},bK d m (11,x)=a->∀ v,v=Sh.enc [(true,aD),(false,.int .i64)] a->v=Sh.enc [(true,aD),(false,.int .i64)] (bK d m (11,x)):=λh v hv=>by rw[h];exact hv
 unfold AJP BUC BTA BTZ BTI BUH BS8 BS2 BT6 BTW BTT BTR BTC BT2 BSY BSU BSS BSR BSQ BSP;have z1:wM [aG true aM (11,x)]=some (Sh.enc [(true,aM)] (bY (11,x))):=(WS ..).trans rfl;refine aF (s:=[(true,aM)]) (y:=bY (11,x)) z1 ?_;have z2:cL [aG true aM (11,x),aG true aM (bY (11,x))]=some (Sh.enc jJ (lX (11,x) (bY (11,x)))):=fZ ..;refine aF (s:=jJ) (y:=lX (11,x) (bY (11,x))) z2 ?_;refine fJ (λh=>lift (mE hk h) _ rfl) λhE=>?_;have hd:=yM (r:=aZ) (l:=d.2.2.2.2.2) (z:=3) (b:=40) rfl (dU c.r (by decide));have pos:∀ {k:Nat},¬ (0<=(k:Int))->False:=λh=>h (by omega);have hus:lQ d (11,x)=false:=rfl;have tail:∀ (hth:dY d (11,x) = !lL (11,x)) (l:List bI) (hl:l=j2 ER d.2.2.2.2.2 (gF (11,x))),aJ [(false,Sy.int IntKind.i64)] (dB [aG true aD (d.1,d.2.1,d.2.2.1,d.2.2.2.1,d.2.2.2.2.1,l),aG true aK m]) λ(y:Int) =>
   aC (!decide (y=0)) (Sh.enc [(true,aD),(false,.int .i64)] (nF,y)=Sh.enc [(true,aD),(false,.int .i64)] (bK d m (11,x))) (Sh.enc [(true,aD),(false,.int .i64)] ((d.1,d.2.1,d.2.2.1,d.2.2.2.1,d.2.2.2.2.1,l),0)=Sh.enc [(true,aD),(false,.int .i64)] (bK d m (11,x))):=λhth l hl=>by
  subst hl;refine aF (s:=[(false,.int .i64)]) (y:=fK (kW d (11,x)) m) (gU ..) ?_;exact lF (λh=>is ((fI hk h5 hE hth hus).trans (if_neg h))) λh=>is ((fI hk h5 hE hth hus).trans (if_pos h))
 refine cY (r:=aZ) (λn=>decide (n=gF (11,x))) (pU c.r) (λX k y hlt hy hp hn=>?_) (λ_ h0=>?_)
 ·dsimp only;refine ifC (λh=>?_) λh=>hn (aj λe=>h (B1.2 e.symm));obtain ⟨_,h2⟩:=hp (ai (B1.1 h).symm);exact cA (λ_=>lift (uJ hk h5 hE rfl h2) _ rfl) λh=>(pos h).elim
 ·have hth:dY d (11,x) = !lL (11,x):=h0;refine aF (s:=[(true,aD)]) (y:=d) ((iL ..).trans (dN hc)) ?_;refine cY (r:=aZ) (λy=>ER y (gF (11,x))) (pU c.r) (λX k y hk' hy hp hn=>?_) (λh _=>?_)
  ·dsimp only;refine aF (s:=jJ) (y:=ER y (gF (11,x))) (AFF ..) ?_;refine sX (λh=>?_) λh=>hn h;obtain ⟨hi,_⟩:=hp h;refine cA (λh=>by omega) λ_=>⟨hd,?_⟩
   refine eK (r:=aZ) (l:=d.2.2.2.2.2.take k++gF (11,x)::d.2.2.2.2.2.drop k) (tX (r:=aZ) (x:=gF (11,x)) rfl (by omega) c.r (by decide)) _ ?_;exact tail hth _ (by unfold j2;rw[hi])
  ·refine ⟨hd,?_⟩;rw[show (((List.map aZ.enc d.2.2.2.2.2).length:Nat):Int)=((d.2.2.2.2.2.length:Nat):Int) by rw[ae]];refine eK (r:=aZ) (l:=d.2.2.2.2.2.take d.2.2.2.2.2.length++gF (11,x)::d.2.2.2.2.2.drop d.2.2.2.2.2.length) (tX (r:=aZ) (x:=gF (11,x)) rfl (al _) c.r (by decide)) _ ?_;exact tail hth _ (by unfold j2;rw[h])
def EH (a0:aB) (a1:aI) (a2:iII×iII×bR×a8×bU×aQ×bI):List T:=[aG true aD a0,aG true aK a1,aG true aM (12,a2)]
noncomputable def AII:Env:=Env.of [(93,.pure cL),(230,.pure wM),(183,.pure j1),(69,.pure fY),(234,.pure rO),(105,.dup 3 40),(298,.grow 3 lC),(299,.grow 3 BS),(65,.pure dB)]
def A1J:FuncId->Hint:=b8 278 [(2,.inv [.val 8 false (.int .i64)])] (b8 294 [(2,.inv [.val 8 false (.int .i64)])] (λ_=>bA))
def AZC:aU Tryz.prog AII:=.cons jZ (.cons APQ (.cons uR (.cons oW (.cons V3 (aU.cons (x:=.dup 3 40) E1 (.cons RN (.cons RL (.cons lA (.nil _)))))))))
def BTK(y6:aB)(a1:aI)(R:T->Prop):Prop:=bL (((BS8 y6).all λ(r:List T)=>decide (r.length=3)) && decide ((BS8 y6).length*40 <= 140737488355328) && decide ((BS8 y6).length<=140737488355328)) (aJ BSR (dB [aG true aD y6,aG true aK a1]) λ(y10:Int)=>aC (!decide (y10=0)) (BT2 R y10) (R (T.cE [aG true aD y6, pPP 0])))
def AJQ(a0:aB)(a1:aI)(a2:iII×iII×bR×a8×bU×aQ×bI)(R:T->Prop):Prop:=aJ [(true,aM)] (wM [(aG true aM (12,a2))]) λ(y0:aV)=>aJ BSU (cL [(aG true aM (12,a2)), aG true aM y0]) λ(y1:Bool)=>aC (!y1) (R (T.cE BSS)) (bB (Int×PUnit) (λX2 s3=>aC (decide (s3.1<(↑(BS8 a0).length:Int))) (aR aZ (BS8 a0) s3.1 λ(y4:bI)=>aC (decide (a2.2.2.2.2.2.2.1=y4.1) && (decide (a2.2.2.2.2.2.2.2.1=y4.2.1) && (decide (a2.2.2.2.2.2.2.2.2=y4.2.2)&&true))) (aC (!decide (0<=s3.1)) (R (T.cE BSW)) (aJ BSU (j1 [aG true aD a0, (aG true aM (12,a2))]) λ(y5:Bool)=>aC y5 (R (T.cE BSX)) (aJ [(true,aD)] (fY [aG true aD a0]) λ(y6:aB)=>bB (Int×PUnit) (λX7 s8=>aC (decide (s8.1<(↑(BS8 y6).length:Int))) (aR aZ (BS8 y6) s8.1 λ(y9:bI)=>aC (decide (y9.1=a2.2.2.2.2.2.2.1) && (decide (y9.2.1=a2.2.2.2.2.2.2.2.1) && (decide (y9.2.2=a2.2.2.2.2.2.2.2.2)&&true))) (aC (decide (s8.1<0)) (BTK y6 a1 R) (bL (((BS8 y6).all λ(r:List T)=>decide (r.length=3)) && decide ((BS8 y6).length*40 <= 140737488355328) && decide ((BS8 y6).length<=140737488355328)) (bW aZ (BS (BS8 y6) [pPP s8.1, pPP (i64.wrap (s8.1+1))]) λ(y11:List bI)=>BS2 y6 y11 a1 R))) (BTZ X7 s8)) (BTK y6 a1 R)) (0,())))) (BTZ X2 s3)) (R (T.cE BSW))) (0,()))
def ASS ( a0 a1 a2 R):eX cD Tryz.prog AII A1J 8 66 (EH a0 a1 a2) R=AJQ a0 a1 a2 R:=by kernel_rfl
noncomputable def AB8 (x:pP):Option T:=match okX x.1 (12,x.2.2) with
 | true=>some (Sh.enc [(true,aD),(false,.int .i64)] (bK x.1 x.2.1 (12,x.2.2)))
 | false=>none
def AIA (x y:pP) (h:EH x.1 x.2.1 x.2.2=EH y.1 y.2.1 y.2.2):x=y:=mD 12 x y h
noncomputable def ALV:List T->Option (T):=gA (λ(x:aB×aI×iII×iII×bR×a8×bU×aQ×bI)=>EH x.1 x.2.1 x.2.2) AB8
def AU0 (a0:aB) (a1:aI) (a2:iII×iII×bR×a8×bU×aQ×bI):ALV (EH a0 a1 a2)=AB8 (a0,a1,a2):=gG (A:=(λ(x:aB×aI×iII×iII×bR×a8×bU×aQ×bI)=>EH x.1 x.2.1 x.2.2)) AIA (a0,a1,a2)
def BEJ (h:∀ (a0:aB) (a1:aI) (a2:iII×iII×bR×a8×bU×aQ×bI) (r:T),AB8 (a0,a1,a2)=some r->(∀ t∈EH a0 a1 a2,Bd t)->AJQ a0 a1 a2 (λy=>y=r)):aP Tryz.prog 66 ALV :=
 cZ (E:=AII) (Hs:=A1J) AZC aY a6 (aO rfl) 8 ⟨_,_,Tryz.func66,rfl⟩ λx r h1 h2=>by
  rw[ASS];exact h x.1 x.2.1 x.2.2 r h1 h2
def BCY:aP Tryz.prog 66 ALV:=BEJ λd m x r h hb=>by
 clear hb;obtain ⟨hp,rfl⟩:=jR h;clear h;obtain ⟨hc,ho1,ho2⟩:=mH hp;have c:=eN hc;have is:∀ {a:aB×Int},bK d m (12,x)=a->Sh.enc [(true,aD),(false,.int .i64)] a=Sh.enc [(true,aD),(false,.int .i64)] (bK d m (12,x)):=λh=>by rw[h]
 have hk:(1:Int)<=((12,x):aV).1/\((12,x):aV).1<=12:=by dsimp only;omega
 have h5:¬ ((12,x):aV).1=5:=by dsimp only;omega
 have lift:∀ {a:aB×Int},bK d m (12,x)=a->∀ v,v=Sh.enc [(true,aD),(false,.int .i64)] a->v=Sh.enc [(true,aD),(false,.int .i64)] (bK d m (12,x)):=λh v hv=>by rw[h];exact hv
 unfold AJQ BTK BTZ BS8 BS2 BT6 BTW BTT BTR BTC BT2 BSX BSW BSU BSS BSR BSQ BSP;have z1:wM [aG true aM (12,x)]=some (Sh.enc [(true,aM)] (bY (12,x))):=(WS ..).trans rfl;refine aF (s:=[(true,aM)]) (y:=bY (12,x)) z1 ?_;have z2:cL [aG true aM (12,x),aG true aM (bY (12,x))]=some (Sh.enc jJ (lX (12,x) (bY (12,x)))):=fZ ..;refine aF (s:=jJ) (y:=lX (12,x) (bY (12,x))) z2 ?_;refine fJ (λh=>lift (mE hk h) _ rfl) λhE=>?_;have hd:=yM (r:=aZ) (l:=d.2.2.2.2.2) (z:=3) (b:=40) rfl (dU c.r (by decide));have pos:∀ {k:Nat},¬ (0<=(k:Int))->False:=λh=>h (by omega);have hus:lQ d (12,x)=false:=rfl;refine cY (r:=aZ) (λn=>decide (n=gF (12,x))) (pU c.r) (λX k y hlt hy hp hn=>?_) (λ_ h0=>lift (uI hk h5 hE rfl h0) _ rfl);dsimp only;refine ifC (λh=>?_) λh=>hn (aj λe=>h (B1.2 e.symm));obtain ⟨_,h2⟩:=hp (ai (B1.1 h).symm);have hth:dY d (12,x) = !lL (12,x):=h2;refine fJ (λh=>(pos (of_decide_eq_false h)).elim) λ_=>?_;have z4:j1 [aG true aD d,aG true aM (12,x)]=some (Sh.enc jJ (lQ d (12,x))):=(M9 ..).trans rfl;refine aF (s:=jJ) (y:=lQ d (12,x)) z4 ?_;refine sX (λh=>absurd h (by rw[hus];decide)) λ_=>?_;refine aF (s:=[(true,aD)]) (y:=d) ((iL ..).trans (dN hc)) ?_;clear hp hn;refine cY (r:=aZ) (λn=>decide (n=gF (12,x))) (pU c.r) (λX k y hk' hy hp hn=>?_) (λh h3=>?_)
 ·dsimp only;refine ifC (λh=>?_) λh=>hn (aj λe=>h (B1.2 e));obtain ⟨hi,_⟩:=hp (ai (B1.1 h));refine cA (λh=>by omega) λ_=>⟨hd,?_⟩
  have eD:kW d (12,x)=(d.1,d.2.1,d.2.2.1,d.2.2.2.1,d.2.2.2.2.1,d.2.2.2.2.2.take k++d.2.2.2.2.2.drop (k+1)):=by
   show (d.1,d.2.1,d.2.2.1,d.2.2.2.1,d.2.2.2.2.1,fV (λn=>decide (n=gF (12,x))) d.2.2.2.2.2)=_;unfold fV;rw[hi]
  refine eK (r:=aZ) (l:=d.2.2.2.2.2.take k++d.2.2.2.2.2.drop (k+1)) (J5 (r:=aZ) rfl hk' c.r) _ ?_;have z5:dB [aG true aD (d.1,d.2.1,d.2.2.1,d.2.2.2.1,d.2.2.2.2.1,d.2.2.2.2.2.take k++d.2.2.2.2.2.drop (k+1)),aG true aK m]=some (Sh.enc [(false,Sy.int .i64)] (fK (d.1,d.2.1,d.2.2.1,d.2.2.2.1,d.2.2.2.2.1,d.2.2.2.2.2.take k++d.2.2.2.2.2.drop (k+1)) m)):=gU ..;refine aF (s:=[(false,.int .i64)]) (y:=fK (kW d (12,x)) m) (by rw[eD];exact z5) ?_;exact lF (λh=>lift ((fI hk h5 hE hth hus).trans (if_neg h)) _ rfl) λh=>lift ((fI hk h5 hE hth hus).trans (if_pos h)) _ (by rw[eD];rfl)
 ·exfalso;have:=h2.symm.trans h3;cases this
end Go.Pv
namespace Go.Pv
open Go Go.Proofs IntKind
variable {α:Type}
def AO9 {is:α->Bool} {f:α->α} {l:List α} {k:Nat} (hk:k<l.length) (h:l.findIdx is=k):NW is f l=l.set k (f l[k]):=by
 unfold NW;rw[h];refine List.ext_getElem (by simp) λi h1 h2=>?_;rw[List.getElem_modify,List.getElem_set];by_cases e:k=i
 ·subst e;simp
 ·simp[e]
def AQ3 {r:Sy} {l:List r.den} {k:Nat} {y:r.den} {row:List T} (h:row=r.enc y):(List.map r.enc l).set k row=List.map r.enc (l.set k y):=by rw[h,List.map_set]
def YH {α:Type}:∀ (s pre r:List α),r.length=s.length->bZ (pre++r) pre.length s=pre++s
 | [],pre,[],_=>rfl
 | [],_,_::_,h=>by cases h
 | _::_,_,[],h=>by cases h
 | x::s,pre,a::r,h=>by
  unfold bZ;rw[show (pre++a::r).set pre.length x=(pre++[x])++r by simp,show pre.length+1=(pre++[x]).length by simp,YH s (pre++[x]) r (by simpa using h)];simp
def AOQ (r s:List α) (h:r.length=s.length):bZ r 0 s=s:=YH s [] r h
def AHH {d:aB} {id:iII} (h:(partOf d id).isSome=true):d.2.2.1≠[]:=by
 intro e;unfold partOf at h;rw[e] at h;cases h
def AHG {d:aB} {id:iII} (h:(partOf d id).isSome=true):d.2.2.1.any (λp=>cS id p)=true:=by
 unfold partOf at h;rw[List.find?_isSome] at h;obtain ⟨p,hp,h⟩:=h;exact List.any_eq_true.2 ⟨p,hp,h⟩
def XZ {d:aB} {n:Nat} (h:d.2.2.1≠[]) (hn:n=aN.w):(!(List.map aN.enc d.2.2.1).isEmpty&&eE n (List.map aN.enc d.2.2.1))=true:=by
 subst hn;rw[ac];refine ⟨?_,uH ..⟩;cases hl:d.2.2.1 with
 | nil=>exact absurd hl h
 | cons a l=>rfl
def OW (a0:aB) (a1:aI) (a2:iII×iII×bR×a8×bU×aQ×bI):List T:=[aG true aD a0,aG true aK a1,aG true aM (6,a2)]
noncomputable def AX6:Env:=Env.of [(93,.pure cL),(189,.pure WX),(94,.pure mF),(183,.pure j1),(108,.pure iY),(69,.part 2 R1),(65,.pure dB)]
def BFT:FuncId->Hint:=b8 185 [(2,.inv [.val 8 false (.int .i64)])] (λ_=>bA)
def BAK:aU Tryz.prog AX6:=.cons jZ (.cons BIU (.cons GX (.cons uR (.cons wH (.cons APL (.cons lA (.nil _)))))))
def BT9(y3:aB)(y12:List T)(a2:iII×iII×bR×a8×bU×aQ×bI):List T:=[pPQ y3.1, T.sl false (BTW y3), T.sl false ((BTC y3).set (-1).toNat (bZ y12 3 [pPQ a2.2.1])), T.sl false (BTT y3), T.sl false (BTR y3), T.sl false (BS8 y3)]
def BUD(y3:aB)(s5:Int×PUnit)(y9:List T)(a2:iII×iII×bR×a8×bU×aQ×bI):List T:=[pPQ y3.1, T.sl false (BTW y3), T.sl false ((BTC y3).set (Int.toNat s5.1) (bZ y9 3 [pPQ a2.2.1])), T.sl false (BTT y3), T.sl false (BTR y3), T.sl false (BS8 y3)]
def AZ6(a0:aB)(a1:aI)(a2:iII×iII×bR×a8×bU×aQ×bI)(R:T->Prop):Prop:=aJ [(true,aM)] (WX [(aG true aM (6,a2))]) λ(y0:aV)=>aJ BSU (cL [(aG true aM (6,a2)), aG true aM y0]) λ(y1:Bool)=>aC (!y1) (R (T.cE BSS)) (aJ BSZ (mF [aG true aD a0,pPQ a2.1]) λ(y2:a8×Bool)=>aC (!y2.2) (R (T.cE BSW)) (aJ [(true,aD)] (R1 [aG true aD a0]) λ(y3:aB)=>bL (!(BTC y3).isEmpty && eE (1+(1+(1+(1+(1+(1+(1+1+(1+(1+(1+(1+(1+1)+(1+(1+1)+1)))))))))))) (BTC y3)) (bB (Int×PUnit) (λX4 s5=>aC (decide (s5.1<(↑(BTC y3).length:Int))) (aR aN (BTC y3) s5.1 λ(y6:a8)=>eR aN (BTC y3) (Int.toNat s5.1) 0 λ(y7:a8)=>aC (decide (y7.1=a2.1)) (aR aN (BTC y3) s5.1 λ(y8:a8)=>IT (BTC y3) (Int.toNat s5.1) λ(y9:List T)=>bL (decide (4<=y9.length)) (aJ BSR (dB [T.agg (BUD y3 s5 y9 a2), aG true aK a1]) λ(y10:Int)=>aC (!decide (y10=0)) (BT2 R y10) (R (T.cE [T.agg (BUD y3 s5 y9 a2), pPP 0])))) (BTZ X4 s5)) (aR aN (BTC y3) (-1) λ(y11:a8)=>IT (BTC y3) (-1).toNat λ(y12:List T)=>bL (decide (4<=y12.length)) (aJ BSR (dB [T.agg (BT9 y3 y12 a2), aG true aK a1]) λ(y13:Int)=>aC (!decide (y13=0)) (BT2 R y13) (R (T.cE [T.agg (BT9 y3 y12 a2), pPP 0]))))) (0,()))))
def AZ7 ( a0 a1 a2 R):eX cD Tryz.prog AX6 BFT 8 66 (OW a0 a1 a2) R=AZ6 a0 a1 a2 R:=by kernel_rfl
noncomputable def AOB (x:pP):Option T:=match okX x.1 (6,x.2.2) with
 | true=>some (Sh.enc [(true,aD),(false,.int .i64)] (bK x.1 x.2.1 (6,x.2.2)))
 | false=>none
def ARI (x y:pP) (h:OW x.1 x.2.1 x.2.2=OW y.1 y.2.1 y.2.2):x=y:=mD 6 x y h
noncomputable def A4T:List T->Option (T):=gA (λ(x:aB×aI×iII×iII×bR×a8×bU×aQ×bI)=>OW x.1 x.2.1 x.2.2) AOB
def A4U (a0:aB) (a1:aI) (a2:iII×iII×bR×a8×bU×aQ×bI):A4T (OW a0 a1 a2)=AOB (a0,a1,a2):=gG (A:=(λ(x:aB×aI×iII×iII×bR×a8×bU×aQ×bI)=>OW x.1 x.2.1 x.2.2)) ARI (a0,a1,a2)
def BJ9 (h:∀ (a0:aB) (a1:aI) (a2:iII×iII×bR×a8×bU×aQ×bI) (r:T),AOB (a0,a1,a2)=some r->(∀ t∈OW a0 a1 a2,Bd t)->AZ6 a0 a1 a2 (λy=>y=r)):aP Tryz.prog 66 A4T :=
 cZ (E:=AX6) (Hs:=BFT) BAK aY a6 (aO rfl) 8 ⟨_,_,Tryz.func66,rfl⟩ λx r h1 h2=>by
  rw[AZ7];exact h x.1 x.2.1 x.2.2 r h1 h2
def BH6:aP Tryz.prog 66 A4T:=BJ9 λd m x r h hb=>by
 clear hb;obtain ⟨hp,rfl⟩:=jR h;clear h;obtain ⟨hc,ho1,ho2⟩:=mH hp;have c:=eN hc;have hk:(1:Int)<=((6,x):aV).1/\((6,x):aV).1<=12:=by dsimp only;omega
 have lift:∀ {a:aB×Int},bK d m (6,x)=a->∀ v,v=Sh.enc [(true,aD),(false,.int .i64)] a->v=Sh.enc [(true,aD),(false,.int .i64)] (bK d m (6,x)):=λh v hv=>by rw[h];exact hv
 unfold AZ6 BUD BT9 BTZ BS8 BTW BTT BTR BTC BT2 BSZ BSW BSU BSS BSR BSQ BSP;have z1:WX [aG true aM (6,x)]=some (Sh.enc [(true,aM)] (bY (6,x))):=(A5I ..).trans rfl;refine aF (s:=[(true,aM)]) (y:=bY (6,x)) z1 ?_;have z2:cL [aG true aM (6,x),aG true aM (bY (6,x))]=some (Sh.enc jJ (lX (6,x) (bY (6,x)))):=fZ ..;refine aF (s:=jJ) (y:=lX (6,x) (bY (6,x))) z2 ?_;refine fJ (λh=>lift (mE hk h) _ rfl) λhE=>?_;have h5:¬ ((6,x):aV).1=5:=by dsimp only;omega
 refine aF (s:=[(true,aN),(false,.bool)]) (y:=found eJ (partOf d (fC (6,x)))) ((rP ..).trans (by unfold mA;dsimp only;rw[c.NJ];rfl)) ?_;have ht:dY d (6,x)=(found eJ (partOf d (fC (6,x)))).2:=(iK ..).symm;refine fJ (λh=>lift (uI hk h5 hE rfl (ht.trans h)) _ rfl) λh=>?_;have hth:dY d (6,x) = !lL (6,x):=ht.trans h;have hus:lQ d (6,x)=false:=rfl;have hso:(partOf d (fC (6,x))).isSome=true:=(iK ..).symm.trans h;refine aF (s:=[(true,aD)]) (y:=d) ((iL ..).trans (dN hc)) ⟨XZ (AHH hso) rfl,?_⟩;refine cY (r:=aN) (λp=>cS (fC (6,x)) p) (pU c.p) (λX k y hlt hy hp hn=>?_) (λh0 ha=>absurd (AHG hso) (by rw[ha];exact Bool.false_ne_true));rw[show Int.toNat (k:Int)=k from rfl,jD (r:=aN) hlt];refine cA (λhe=>?_) λhe=>hn (by subst hy;exact aj he);obtain ⟨hidx,_⟩:=hp (by subst hy;exact ai he);rw[bE (r:=aN) hlt,qQ (r:=aN) hlt];refine ⟨by rw[Sy.dD];rfl,?_⟩;have hD:kW d (6,x)=(d.1,d.2.1,d.2.2.1.set k (AMV d.2.2.1[k] (eTo (6,x))),d.2.2.2):=by
  have e:kW d (6,x)=(d.1,d.2.1,NW (cS (fC (6,x))) (λp=>AMV p (eTo (6,x))) d.2.2.1,d.2.2.2):=rfl;rw[e,AO9 hlt hidx]
 have hs:(List.map aN.enc d.2.2.1).set k (bZ (aN.enc d.2.2.1[k]) 3 [pPQ x.2.1])=List.map aN.enc (d.2.2.1.set k (AMV d.2.2.1[k] (eTo (6,x)))):=AQ3 (r:=aN) rfl;rw[hs];have z3:=gU (a0:=kW d (6,x)) (a1:=m);have hchk:=fI (m:=m) hk h5 hE hth hus;rw[hD] at z3 hchk;refine aF (s:=[(false,.int .i64)]) z3 ?_;exact lF (λh=>lift (hchk.trans (if_neg h)) _ rfl) λh=>lift (hchk.trans (if_pos h)) _ rfl
def OV (a0:aB) (a1:aI) (a2:iII×iII×bR×a8×bU×aQ×bI):List T:=[aG true aD a0,aG true aK a1,aG true aM (5,a2)]
noncomputable def AX5:Env:=Env.of [(93,.pure cL),(181,.pure WW),(94,.pure mF),(183,.pure j1),(108,.pure iY),(69,.part 2 R1),(65,.pure dB)]
def BFS:FuncId->Hint:=b8 185 [(2,.inv [.val 8 false (.int .i64)])] (λ_=>bA)
def BAJ:aU Tryz.prog AX5:=.cons jZ (.cons BIT (.cons GX (.cons uR (.cons wH (.cons APL (.cons lA (.nil _)))))))
def BS5(y9:a8)(y11:Int):List T:=[pPQ y9.1, pPP (i64.wrap (y11+1)), pPP y9.2.2.1, pPQ y9.2.2.2.1, pPQ y9.2.2.2.2.1, pPP y9.2.2.2.2.2.1, T.sl false (List.map aA.enc y9.2.2.2.2.2.2.1.1), T.sl false (List.map aA.li.enc y9.2.2.2.2.2.2.1.2), pPQ y9.2.2.2.2.2.2.2.1, pPP y9.2.2.2.2.2.2.2.2.1, pPP y9.2.2.2.2.2.2.2.2.2.1, pPP y9.2.2.2.2.2.2.2.2.2.2.1.1, pPP y9.2.2.2.2.2.2.2.2.2.2.1.2.1, pPP y9.2.2.2.2.2.2.2.2.2.2.1.2.2, pPP y9.2.2.2.2.2.2.2.2.2.2.2.1.1, pPP y9.2.2.2.2.2.2.2.2.2.2.2.1.2.1, pPP y9.2.2.2.2.2.2.2.2.2.2.2.1.2.2, pPP y9.2.2.2.2.2.2.2.2.2.2.2.2]
def BT7(y4:aB)(y19:List T)(y15:a8)(y17:Int):List T:=[pPQ y4.1, T.sl false (BTW y4), T.sl false ((BTC y4).set (-1).toNat (bZ y19 0 (BS5 y15 y17))), T.sl false (BTT y4), T.sl false (BTR y4), T.sl false (BS8 y4)]
def BUB(y4:aB)(s6:Int×PUnit)(y13:List T)(y9:a8)(y11:Int):List T:=[pPQ y4.1, T.sl false (BTW y4), T.sl false ((BTC y4).set (Int.toNat s6.1) (bZ y13 0 (BS5 y9 y11))), T.sl false (BTT y4), T.sl false (BTR y4), T.sl false (BS8 y4)]
def AZ4(a0:aB)(a1:aI)(a2:iII×iII×bR×a8×bU×aQ×bI)(R:T->Prop):Prop:=aJ [(true,aM)] (WW [(aG true aM (5,a2))]) λ(y0:aV)=>aJ BSU (cL [(aG true aM (5,a2)), aG true aM y0]) λ(y1:Bool)=>aC (!y1) (R (T.cE BSS)) (aC (!decide (a2.2.2.2.1.2.1=0)) (R (T.cE BSS)) (aJ BSZ (mF [aG true aD a0,pPQ a2.2.2.2.1.1]) λ(y2:a8×Bool)=>aC (!y2.2) (R (T.cE BSW)) (aJ BSZ (mF [aG true aD a0,pPQ a2.2.2.2.1.1]) λ(y3:a8×Bool)=>aC (!decide (y3.1.2.2.2.1=a2.2.2.2.1.2.2.2.1)) (R (T.cE BSS)) (aJ [(true,aD)] (R1 [aG true aD a0]) λ(y4:aB)=>bL (!(BTC y4).isEmpty && eE (1 + (1+(1+(1+(1+(1+(1+1+(1+(1+(1+(1+(1+1)+(1+(1+1)+1)))))))))))) (BTC y4)) (bB (Int×PUnit) (λX5 s6=>aC (decide (s6.1<(↑(BTC y4).length:Int))) (aR aN (BTC y4) s6.1 λ(y7:a8)=>eR aN (BTC y4) (Int.toNat s6.1) 0 λ(y8:a8)=>aC (decide (y8.1=a2.2.2.2.1.1)) (aJ [(true,aN)] (iY [aG true aN a2.2.2.2.1]) λ(y9:a8)=>aR aN (BTC y4) s6.1 λ(y10:a8)=>eR (Sy.int IntKind.i64) (BTC y4) (Int.toNat s6.1) 1 λ(y11:Int)=>aR aN (BTC y4) s6.1 λ(y12:a8)=>IT (BTC y4) (Int.toNat s6.1) λ(y13:List T)=>bL (decide (18<=y13.length)) (aJ BSR (dB [T.agg (BUB y4 s6 y13 y9 y11), aG true aK a1]) λ(y14:Int)=>aC (!decide (y14=0)) (R (T.cE [T.agg [pPQ ({data:=#[]}), T.sl false [],T.sl false [],T.sl false [], T.sl false [],T.sl false []], pPP y14])) (R (T.cE [T.agg (BUB y4 s6 y13 y9 y11), pPP 0])))) (BTZ X5 s6)) (aJ [(true,aN)] (iY [aG true aN a2.2.2.2.1]) λ(y15:a8)=>aR aN (BTC y4) (-1) λ(y16:a8)=>eR (Sy.int IntKind.i64) (BTC y4) (-1).toNat 1 λ(y17:Int)=>aR aN (BTC y4) (-1) λ(y18:a8)=>IT (BTC y4) (-1).toNat λ(y19:List T)=>bL (decide (18<=y19.length)) (aJ BSR (dB [T.agg (BT7 y4 y19 y15 y17), aG true aK a1]) λ(y20:Int)=>aC (!decide (y20=0)) (BT2 R y20) (R (T.cE [T.agg (BT7 y4 y19 y15 y17), pPP 0]))))) (0,()))))))
def AZ5 ( a0 a1 a2 R):eX cD Tryz.prog AX5 BFS 8 66 (OV a0 a1 a2) R=AZ4 a0 a1 a2 R:=by kernel_rfl
noncomputable def AOA (x:pP):Option T:=match okX x.1 (5,x.2.2) with
 | true=>some (Sh.enc [(true,aD),(false,.int .i64)] (bK x.1 x.2.1 (5,x.2.2)))
 | false=>none
def ARH (x y:pP) (h:OV x.1 x.2.1 x.2.2=OV y.1 y.2.1 y.2.2):x=y:=mD 5 x y h
noncomputable def A4R:List T->Option (T):=gA (λ(x:aB×aI×iII×iII×bR×a8×bU×aQ×bI)=>OV x.1 x.2.1 x.2.2) AOA
def A4S (a0:aB) (a1:aI) (a2:iII×iII×bR×a8×bU×aQ×bI):A4R (OV a0 a1 a2)=AOA (a0,a1,a2):=gG (A:=(λ(x:aB×aI×iII×iII×bR×a8×bU×aQ×bI)=>OV x.1 x.2.1 x.2.2)) ARH (a0,a1,a2)
def BJ8 (h:∀ (a0:aB) (a1:aI) (a2:iII×iII×bR×a8×bU×aQ×bI) (r:T),AOA (a0,a1,a2)=some r->(∀ t∈OV a0 a1 a2,Bd t)->AZ4 a0 a1 a2 (λy=>y=r)):aP Tryz.prog 66 A4R :=
 cZ (E:=AX5) (Hs:=BFS) BAJ aY a6 (aO rfl) 8 ⟨_,_,Tryz.func66,rfl⟩ λx r h1 h2=>by
  rw[AZ5];exact h x.1 x.2.1 x.2.2 r h1 h2
def BH5:aP Tryz.prog 66 A4R:=BJ8 λd m x r h hb=>by
 clear hb;obtain ⟨hp,rfl⟩:=jR h;clear h;obtain ⟨hc,ho1,ho2⟩:=mH hp;have c:=eN hc;have hk:(1:Int)<=((5,x):aV).1/\((5,x):aV).1<=12:=by dsimp only;omega
 have lift:∀ {a:aB×Int},bK d m (5,x)=a->∀ v,v=Sh.enc [(true,aD),(false,.int .i64)] a->v=Sh.enc [(true,aD),(false,.int .i64)] (bK d m (5,x)):=λh v hv=>by rw[h];exact hv
 unfold AZ4 BUB BT7 BTZ BS8 BS5 BTW BTT BTR BTC BT2 BSZ BSW BSU BSS BSR BSQ BSP;have z1:WW [aG true aM (5,x)]=some (Sh.enc [(true,aM)] (bY (5,x))):=(A5H ..).trans rfl;refine aF (s:=[(true,aM)]) (y:=bY (5,x)) z1 ?_;have z2:cL [aG true aM (5,x),aG true aM (bY (5,x))]=some (Sh.enc jJ (lX (5,x) (bY (5,x)))):=fZ ..;refine aF (s:=jJ) (y:=lX (5,x) (bY (5,x))) z2 ?_;refine fJ (λh=>lift (mE hk h) _ rfl) λhE=>?_;have hr:¬ (¬ (1<=((5,x):aV).1/\((5,x):aV).1<=12)):=λh=>h hk;refine lF (λh=>lift (by unfold bK;rw[if_neg hr,if_pos (.inr ⟨rfl,h⟩)]) _ rfl) λhrev=>?_;have hpl:¬ (lX (5,x) (bY (5,x))=false\/(((5,x):aV).1=5/\¬ (cQ (5,x)).2.1=0)):=λh=>h.elim (λe=>by rw[hE] at e;cases e) λe=>e.2 hrev;refine aF (s:=[(true,aN),(false,.bool)]) (y:=found eJ (partOf d (cQ (5,x)).1)) ((rP ..).trans (by unfold mA;dsimp only;rw[c.NJ];rfl)) ?_;have ht:dY d (5,x)=(found eJ (partOf d (cQ (5,x)).1)).2:=(iK ..).symm;have had:¬ (lL (5,x)=true/\dY d (5,x)=true):=λh=>by cases h.1
 refine fJ (λh=>lift (by unfold bK;rw[if_neg hr,if_neg hpl,if_neg had,if_pos ⟨rfl,ht.trans h⟩]) _ rfl) λh=>?_;have hno:¬ (lL (5,x)=false/\dY d (5,x)=false):=λe=>by rw[ht,h] at e;cases e.2
 have hso:(partOf d (cQ (5,x)).1).isSome=true:=(iK ..).symm.trans h;refine aF (s:=[(true,aN),(false,.bool)]) (y:=found eJ (partOf d (cQ (5,x)).1)) ((rP ..).trans (by unfold mA;dsimp only;rw[c.NJ];rfl)) ?_;refine lF (λh=>lift (by unfold bK;rw[if_neg hr,if_neg hpl,if_neg had,if_neg hno,if_pos ⟨rfl,h⟩]) _ rfl) λhnode=>?_;have hnd:¬ (((5,x):aV).1=5/\¬ oG (found eJ (partOf d (cQ (5,x)).1)).1=oG (cQ (5,x))):=λe=>e.2 hnode;have hchk:bK d m (5,x)=if fK (kW d (5,x)) m=0 then (kW d (5,x),0) else (nF,fK (kW d (5,x)) m):=by
  have hu:¬ lQ d (5,x)=true:=λh=>by cases h
  unfold bK;rw[if_neg hr,if_neg hpl,if_neg had,if_neg hno,if_neg hnd,if_neg hu]
 refine aF (s:=[(true,aD)]) (y:=d) ((iL ..).trans (dN hc)) ⟨XZ (AHH hso) rfl,?_⟩;refine cY (r:=aN) (λp=>cS (cQ (5,x)).1 p) (pU c.p) (λX k y hlt hy hp hn=>?_) (λh0 ha=>absurd (AHG hso) (by rw[ha];exact Bool.false_ne_true));rw[show Int.toNat (k:Int)=k from rfl,jD (r:=aN) hlt];refine cA (λhe=>?_) λhe=>hn (by subst hy;exact aj he);obtain ⟨hidx,_⟩:=hp (by subst hy;exact ai he);refine aF (s:=[(true,aN)]) (y:=cQ (5,x)) ((wJ ..).trans (by unfold jU;rw[ho1])) ?_;rw[bE (r:=aN) hlt];refine ⟨aN.enc d.2.2.1[k],(d.2.2.1[k]).2.1,sR.2 (List.getElem?_eq_getElem hlt),by rw[Sy.dD];decide,rfl,?_⟩;dsimp only;rw[bE (r:=aN) hlt,qQ (r:=aN) hlt];refine ⟨by rw[Sy.dD];rfl,?_⟩;have hD:kW d (5,x)=(d.1,d.2.1,d.2.2.1.set k (ANL (cQ (5,x)) d.2.2.1[k]),d.2.2.2):=by
  have e:kW d (5,x)=(d.1,d.2.1,NW (cS (cQ (5,x)).1) (ANL (cQ (5,x))) d.2.2.1,d.2.2.2):=rfl;rw[e,AO9 hlt hidx]
 generalize hrow:bZ (aN.enc d.2.2.1[k]) 0 _=row;have hs:(List.map aN.enc d.2.2.1).set k row=List.map aN.enc (d.2.2.1.set k (ANL (cQ (5,x)) d.2.2.1[k])):=AQ3 (r:=aN) (by rw[<-hrow,AOQ _ _ (by rw[Sy.dD];rfl)];rfl);rw[hs];have z3:=gU (a0:=kW d (5,x)) (a1:=m);rw[hD] at z3 hchk;refine aF (s:=[(false,.int .i64)]) z3 ?_;exact lF (λh=>lift (hchk.trans (if_neg h)) _ rfl) λh=>lift (hchk.trans (if_pos h)) _ rfl
end Go.Pv
namespace Go.Pv
open Go Go.Proofs IntKind
end Go.Pv
namespace Go.Pv
open Go Go.Proofs IntKind
noncomputable def BMA:Env:=Env.of []
def BMW:FuncId->Hint:=λ_=>bA
def BAE:aU Tryz.prog BMA:=.nil _
def AZV(a0:aB)(a1:aI)(a2:aV)(R:T->Prop):Prop:=aC (decide (a2.1=1)) (aC (decide (a2.1=1)) (oE 72) (oE 72)) (aC (decide (a2.1=2)) (aC (decide (a2.1=1)) (oE 72) (oE 72)) (aC (decide (a2.1=3)) (aC (decide (a2.1=3)) (oE 72) (oE 72)) (aC (decide (a2.1=4)) (aC (decide (a2.1=3)) (oE 72) (oE 72)) (aC (decide (a2.1=5)) (oE 72) (aC (decide (a2.1=6)) (oE 72) (aC (decide (a2.1=7)) (aC (decide (a2.1=7)) (oE 72) (oE 72)) (aC (decide (a2.1=8)) (aC (decide (a2.1=7)) (oE 72) (oE 72)) (aC (decide (a2.1=9)) (aC (decide (a2.1=9)) (oE 72) (oE 72)) (aC (decide (a2.1=10)) (aC (decide (a2.1=9)) (oE 72) (oE 72)) (aC (decide (a2.1=11)) (oE 72) (aC (decide (a2.1=12)) (oE 72) (R (T.cE [T.agg BSP, pPP 10])))))))))))))
abbrev A8R:Sh:=[(true,aD),(true,aK),(true,aM)]
def L9 (x:aB×aI×aV):Option T:=if 1<=x.2.2.1/\x.2.2.1<=12 then none else some (Sh.enc [(true,aD),(false,.int .i64)] (nF,10))
noncomputable def A4H:List T->Option T:=gS A8R L9
def A4I {a0 a1 a2}:A4H [aG true aD a0,aG true aK a1,aG true aM a2]=L9 (a0,a1,a2):=bH (s:=A8R) rfl (a0,a1,a2) rfl
def BJ3:Of3 Tryz.prog 66 A4H L9 (cG A8R) AZV:=SW (a1:=(true,aD)) (a2:=(true,aK)) (a3:=(true,aM)) (sp:=L9) (F:=AZV) (Hs:=BMW) (f:=66) (k:=2) BAE aY a6 (aO rfl) ⟨_,_,Tryz.func66,rfl⟩ rfl λ_ _ _ _=>by kernel_rfl
def BH1:aP Tryz.prog 66 A4H:=BJ3 λd m x r h hb=>by
 clear hb;unfold L9 at h;split at h
 ·cases h
 rename_i hk;cases h;have hk:¬ (1<=x.1/\x.1<=12):=hk;unfold AZV BSP;refine cA (λh=>absurd (by omega) hk) λ_=>?_;refine cA (λh=>absurd (by omega) hk) λ_=>?_;refine cA (λh=>absurd (by omega) hk) λ_=>?_;refine cA (λh=>absurd (by omega) hk) λ_=>?_;refine cA (λh=>absurd (by omega) hk) λ_=>?_;refine cA (λh=>absurd (by omega) hk) λ_=>?_;refine cA (λh=>absurd (by omega) hk) λ_=>?_;refine cA (λh=>absurd (by omega) hk) λ_=>?_;refine cA (λh=>absurd (by omega) hk) λ_=>?_;refine cA (λh=>absurd (by omega) hk) λ_=>?_;refine cA (λh=>absurd (by omega) hk) λ_=>?_;refine cA (λh=>absurd (by omega) hk) λ_=>?_;rfl
def N7 (x:aB×aI×aV):List T:=[aG true aD x.1,aG true aK x.2.1,aG true aM x.2.2]
noncomputable def I0 (x:aB×aI×aV):Option T:=match okX x.1 x.2.2 with
 | true=>some (Sh.enc [(true,aD),(false,.int .i64)] (bK x.1 x.2.1 x.2.2))
 | false=>none
noncomputable def G3:List T->Option T:=gA N7 I0
def ACW (x y:aB×aI×aV) (h:N7 x=N7 y):x=y:=by
 simp only[N7,List.cons.injEq,and_true] at h;obtain ⟨h1,h2,h3⟩:=h;exact Prod.ext (nM (r:=aD) rfl h1) (Prod.ext (nM (r:=aK) rfl h2) (nM (r:=aM) rfl h3))
def ALW (d:aB) (m:aI) (x:aV):G3 [aG true aD d,aG true aK m,aG true aM x]=I0 (d,m,x):=gG ACW (d,m,x)
def A3Z:aP Tryz.prog 66 G3:=⟨A3Y.entry,λw own args vs r hG ho ha hg=>by
 obtain ⟨⟨d,m,k,x⟩,rfl,h⟩:=AAF hg;unfold I0 at h;dsimp only at h;clear hg;by_cases c1:k=1
 ·subst c1;exact A3Y.calls w own _ vs r hG ho ha ((A4K d m x).trans h)
 by_cases c2:k=2
 ·subst c2;exact BH2.calls w own _ vs r hG ho ha ((A4M d m x).trans h)
 by_cases c3:k=3
 ·subst c3;exact BH3.calls w own _ vs r hG ho ha ((A4O d m x).trans h)
 by_cases c4:k=4
 ·subst c4;exact BH4.calls w own _ vs r hG ho ha ((A4Q d m x).trans h)
 by_cases c5:k=5
 ·subst c5;exact BH5.calls w own _ vs r hG ho ha ((A4S d m x).trans h)
 by_cases c6:k=6
 ·subst c6;exact BH6.calls w own _ vs r hG ho ha ((A4U d m x).trans h)
 by_cases c7:k=7
 ·subst c7;exact BH7.calls w own _ vs r hG ho ha ((A4W d m x).trans h)
 by_cases c8:k=8
 ·subst c8;exact BH8.calls w own _ vs r hG ho ha ((A4Y d m x).trans h)
 by_cases c9:k=9
 ·subst c9;exact BH9.calls w own _ vs r hG ho ha ((A40 d m x).trans h)
 by_cases c10:k=10
 ·subst c10;exact BCW.calls w own _ vs r hG ho ha ((AUY d m x).trans h)
 by_cases c11:k=11
 ·subst c11;exact BCX.calls w own _ vs r hG ho ha ((AUZ d m x).trans h)
 by_cases c12:k=12
 ·subst c12;exact BCY.calls w own _ vs r hG ho ha ((AU0 d m x).trans h)
 have hn:¬ (1<=k/\k<=12):=by omega
 have hr:some (Sh.enc [(true,aD),(false,.int .i64)] (bK d m (k,x)))=some r:=by
  split at h
  ·exact h
  ·cases h
 refine BH1.calls w own _ vs r hG ho ha ((A4I (a0:=d) (a1:=m) (a2:=(k,x))).trans ?_);rw[<-hr];unfold L9 bK;rw[if_neg hn,if_pos hn]⟩
end Go.Pv
namespace Go.Pv
open Go Go.Proofs IntKind
structure GC (b:Nat) (d:aB):Prop where
 n:d.2.1.length<=b
 p:d.2.2.1.length<=b
 s:d.2.2.2.1.length<=b
 k:d.2.2.2.2.1.length<=b
 r:d.2.2.2.2.2.length<=b
abbrev BMU (d:aB):Prop:=GC 40 d
def A3W {d:aB} (h:few d 40=true):BMU d:=by
 simp only[few,ac,ah] at h;obtain ⟨⟨⟨⟨⟨a,b⟩,c⟩,e⟩,f⟩,_⟩:=h;exact ⟨by omega,by omega,by omega,by omega,by omega⟩
def BK7 {e:aB} (hP:∀ q∈e.2.2.1,gC q=true) (hK:∀ q∈e.2.2.2.2.1,fF q=true) (n:e.2.1.length<=1000) (p:e.2.2.1.length<=1000) (s:e.2.2.2.1.length<=1000) (k:e.2.2.2.2.1.length<=1000) (r:e.2.2.2.2.2.length<=1000):wY e=true:=by
 unfold wY NJ LJ;rw[List.all_eq_true.2 hP,List.all_eq_true.2 hK,ai n,ai p,ai s,ai k,ai r];rfl
variable {α:Type}
def BB9 {p:α->Bool} {f:α->α} {l:List α}:(NW p f l).length=l.length:=by unfold NW;exact List.length_modify ..
def ZY {α:Type} {p:α->Bool} {f:α->α}:∀ {l:List α} {a:α},a∈NW p f l->a∈l\/∃ b∈l,a=f b
 | [],_,h=>by simp[NW] at h
 | z::l,a,h=>by
  unfold NW at h;rw[List.findIdx_cons] at h;cases hz:p z with
  | true =>
   rw[hz] at h;rcases List.mem_cons.1 (show a∈f z::l from h) with e|h
   ·exact .inr ⟨z,am,e⟩
   ·exact .inl (List.mem_cons_of_mem _ h)
  | false =>
   rw[hz] at h;rcases List.mem_cons.1 (show a∈z::NW p f l from h) with e|h
   ·exact .inl (e ▸ am)
   ·rcases ZY h with h|⟨b,h,e⟩
    ·exact .inl (List.mem_cons_of_mem _ h)
    ·exact .inr ⟨b,List.mem_cons_of_mem _ h,e⟩
def A3K {b:Nat} {d:aB} {x:aV} (h:GC b d):GC (b+1) (kW d x):=by
 obtain ⟨ln,lp,ls,lk,lr⟩:=h;have i1:∀ {α:Type} {f:α->α->Bool} {l:List α} {a:α},l.length<=b->(j2 f l a).length<=b+1:=λh=>by rw[A50];omega
 have i2:∀ {α:Type} {f:α->Bool} {l:List α},l.length<=b->(fV f l).length<=b+1:=λh=>Nat.le_trans AEH (by omega);have i3:∀ {α:Type} {l:List α},l.length<=b->l.length<=b+1:=λh=>by omega
 have i4:∀ {α:Type} {p:α->Bool} {f:α->α} {l:List α},l.length<=b->(NW p f l).length<=b+1:=λh=>by rw[BB9];omega
 unfold kW;by_cases h1:x.1=1
 ·rw[if_pos h1];exact ⟨i1 ln,i3 lp,i3 ls,i3 lk,i3 lr⟩
 rw[if_neg h1];by_cases h2:x.1=2
 ·rw[if_pos h2];exact ⟨i2 ln,i3 lp,i3 ls,i3 lk,i3 lr⟩
 rw[if_neg h2];by_cases h3:x.1=3
 ·rw[if_pos h3];exact ⟨i3 ln,i1 lp,i3 ls,i3 lk,i3 lr⟩
 rw[if_neg h3];by_cases h4:x.1=4
 ·rw[if_pos h4];exact ⟨i3 ln,i2 lp,i3 ls,i3 lk,i3 lr⟩
 rw[if_neg h4];by_cases h5:x.1=5
 ·rw[if_pos h5];exact ⟨i3 ln,i4 lp,i3 ls,i3 lk,i3 lr⟩
 rw[if_neg h5];by_cases h6:x.1=6
 ·rw[if_pos h6];exact ⟨i3 ln,i4 lp,i3 ls,i3 lk,i3 lr⟩
 rw[if_neg h6];by_cases h7:x.1=7
 ·rw[if_pos h7];exact ⟨i3 ln,i3 lp,i1 ls,i3 lk,i3 lr⟩
 rw[if_neg h7];by_cases h8:x.1=8
 ·rw[if_pos h8];exact ⟨i3 ln,i3 lp,i2 ls,i3 lk,i3 lr⟩
 rw[if_neg h8];by_cases h9:x.1=9
 ·rw[if_pos h9];exact ⟨i3 ln,i3 lp,i3 ls,i1 lk,i3 lr⟩
 rw[if_neg h9];by_cases h10:x.1=10
 ·rw[if_pos h10];exact ⟨i3 ln,i3 lp,i3 ls,i2 lk,i3 lr⟩
 rw[if_neg h10];by_cases h11:x.1=11
 ·rw[if_pos h11];exact ⟨i3 ln,i3 lp,i3 ls,i3 lk,i1 lr⟩
 rw[if_neg h11];exact ⟨i3 ln,i3 lp,i3 ls,i3 lk,i2 lr⟩
def A3L {d:aB} {x:aV} (hD:NJ d=true) (hp:gC (cQ x)=true):NJ (kW d x)=true:=by
 have a1:∀ q∈d.2.2.1,gC q=true:=λq hq=>List.all_eq_true.1 hD q hq;have mk:∀ {e:aB},(∀ q∈e.2.2.1,gC q=true)->NJ e=true:=λh=>List.all_eq_true.2 h;unfold kW;by_cases h1:x.1=1
 ·rw[if_pos h1];exact mk a1
 rw[if_neg h1];by_cases h2:x.1=2
 ·rw[if_pos h2];exact mk a1
 rw[if_neg h2];by_cases h3:x.1=3
 ·rw[if_pos h3];exact mk λq hq=>(vC.1 hq).elim (λe=>by rw[e];exact hp) (a1 q)
 rw[if_neg h3];by_cases h4:x.1=4
 ·rw[if_pos h4];exact mk λq hq=>a1 q (GL hq)
 rw[if_neg h4];by_cases h5:x.1=5
 ·rw[if_pos h5];exact mk λq hq=>(ZY hq).elim (a1 q) λ⟨b,_,e⟩=>by rw[e];exact hp
 rw[if_neg h5];by_cases h6:x.1=6
 ·rw[if_pos h6];exact mk λq hq=>(ZY hq).elim (a1 q) λ⟨b,hb,e⟩=>by rw[e];exact a1 b hb
 rw[if_neg h6];by_cases h7:x.1=7
 ·rw[if_pos h7];exact mk a1
 rw[if_neg h7];by_cases h8:x.1=8
 ·rw[if_pos h8];exact mk a1
 rw[if_neg h8];by_cases h9:x.1=9
 ·rw[if_pos h9];exact mk a1
 rw[if_neg h9];by_cases h10:x.1=10
 ·rw[if_pos h10];exact mk a1
 rw[if_neg h10];by_cases h11:x.1=11
 ·rw[if_pos h11];exact mk a1
 rw[if_neg h11];exact mk a1
def A3M {d:aB} {x:aV} (hK:LJ d=true) (hk:fF (iN x)=true):LJ (kW d x)=true:=by
 have b1:∀ q∈d.2.2.2.2.1,fF q=true:=λq hq=>List.all_eq_true.1 hK q hq;have mk:∀ {e:aB},(∀ q∈e.2.2.2.2.1,fF q=true)->LJ e=true:=λh=>List.all_eq_true.2 h;unfold kW;by_cases h1:x.1=1
 ·rw[if_pos h1];exact mk b1
 rw[if_neg h1];by_cases h2:x.1=2
 ·rw[if_pos h2];exact mk b1
 rw[if_neg h2];by_cases h3:x.1=3
 ·rw[if_pos h3];exact mk b1
 rw[if_neg h3];by_cases h4:x.1=4
 ·rw[if_pos h4];exact mk b1
 rw[if_neg h4];by_cases h5:x.1=5
 ·rw[if_pos h5];exact mk b1
 rw[if_neg h5];by_cases h6:x.1=6
 ·rw[if_pos h6];exact mk b1
 rw[if_neg h6];by_cases h7:x.1=7
 ·rw[if_pos h7];exact mk b1
 rw[if_neg h7];by_cases h8:x.1=8
 ·rw[if_pos h8];exact mk b1
 rw[if_neg h8];by_cases h9:x.1=9
 ·rw[if_pos h9];exact mk λq hq=>(vC.1 hq).elim (λe=>by rw[e];exact hk) (b1 q)
 rw[if_neg h9];by_cases h10:x.1=10
 ·rw[if_pos h10];exact mk λq hq=>b1 q (GL hq)
 rw[if_neg h10];by_cases h11:x.1=11
 ·rw[if_pos h11];exact mk b1
 rw[if_neg h11];exact mk b1
def BE3 {d:aB} (hD:NJ d=true) (hK:LJ d=true) {b:Nat} (h:GC b d) (hb:b<=1000):wY d=true:=by
 obtain ⟨ln,lp,ls,lk,lr⟩:=h;exact BK7 (λq hq=>List.all_eq_true.1 hD q hq) (λq hq=>List.all_eq_true.1 hK q hq) (by omega) (by omega) (by omega) (by omega) (by omega)
variable {m:aI}
def A2J {d:aB} {x:aV} (hc:wY d=true) (hp:gC (cQ x)=true) (hk:fF (iN x)=true):G3 [aG true aD d,aG true aK m,aG true aM x]=some (Sh.enc [(true,aD),(false,.int .i64)] (bK d m x)):=by
 rw[ALW];unfold I0;exact dN (by unfold okX;rw[hc,hp,hk];rfl)
def AW4 {p:a8} (h4:InS aN p):gC p=true:=by
 obtain ⟨_,_,_,_,_,_,⟨⟨h5,h6,_⟩,h7,h8,h9⟩,_⟩:=h4;unfold gC IF l7;simp only[ac,ah,List.all_eq_true];refine ⟨⟨⟨?_,?_⟩,?_,?_⟩,λq hq=>?_⟩
 ·exact h5
 ·exact h6
 ·exact h7
 ·exact h8
 ·obtain ⟨g1,g2,_⟩:=h9 q hq;exact ⟨g1,g2⟩
def AW3 {k:aQ} (h:InS aH k):fF k=true:=by
 obtain ⟨_,_,⟨h5,h6,_⟩,_,⟨h7,h8,_⟩⟩:=h;unfold fF l7;simp only[ac,ah];exact ⟨⟨h5,h6⟩,h7,h8⟩
end Go.Pv
namespace Go.Pv
open Go Go.Proofs IntKind
noncomputable def bP (m:aI):aB->List aV->aB×Int
 | d,[]=>(d,0)
 | d,x::l=>if (bK d m x).2=0 then bP m (bK d m x).1 l else (nF,(bK d m x).2)
noncomputable def fU (d:aB) (m:aI) (o:cN):aB×Int :=
 if pS o.1=false then (nF,6)
 else if (o.2.length:Int)=0 then (nF,3)
 else if 32<(o.2.length:Int) then (nF,4)
 else if ¬ fK d m=0 then (nF,fK d m)
 else bP m d o.2
def QI {m:aI}:∀ {a b:List aV} {d:aB},bP m d (a++b)=if (bP m d a).2=0 then bP m (bP m d a).1 b else bP m d a
 | [],b,d=>by
  rw[if_pos (show (bP m d []).2=0 from rfl)];rfl
 | x::a,b,d=>by
  show (if (bK d m x).2=0 then bP m (bK d m x).1 (a++b) else (nF,(bK d m x).2))=_;rw[show bP m d (x::a)=if (bK d m x).2=0 then bP m (bK d m x).1 a else (nF,(bK d m x).2) from rfl];split
  ·exact QI
  ·rfl
def kH {m:aI}:∀ {l:List aV} {d:aB},fK d m=0->(bP m d l).2=0->fK (bP m d l).1 m=0
 | [],d,hc,_=>hc
 | x::l,d,hc,h=>by
  unfold bP at h ⊢;split at h
  ·rename_i hx;rw[if_pos hx];have hd:=Z5 hx;exact kH (by rw[hd.eq];exact hd.chk) h
  ·rename_i hx;exact absurd h hx
variable {m:aI}
def AK2 {d:aB} {o:cN} {n:Nat} (h0:0<n) (h1:n<o.2.length) (h2:o.2.length<=32) :
  fU d m o=if (fU d m (o.1,o.2.take n)).2=0 then fU (fU d m (o.1,o.2.take n)).1 m (o.1,o.2.drop n) else fU d m (o.1,o.2.take n):=by
 have e1:(o.2.take n).length=n:=by rw[List.length_take];omega
 have e2:(o.2.drop n).length=o.2.length-n:=List.length_drop;by_cases hi:pS o.1=false
 ·have a1:∀ (x:aB) l,fU x m (o.1,l)=(nF,6):=λx l=>if_pos hi;rw[a1,a1,if_neg (show ¬ (nF,(6:Int)).2=0 by decide)]
 have c1:fU d m o=if ¬ fK d m=0 then (nF,fK d m) else bP m d o.2:=by
  unfold fU;rw[if_neg hi,if_neg (by omega),if_neg (by omega)]
 have c2:fU d m (o.1,o.2.take n)=if ¬ fK d m=0 then (nF,fK d m) else bP m d (o.2.take n):=by
  unfold fU;rw[if_neg hi,if_neg (by dsimp only;omega),if_neg (by dsimp only;omega)]
 have c3:∀ x,fU x m (o.1,o.2.drop n)=if ¬ fK x m=0 then (nF,fK x m) else bP m x (o.2.drop n):=λx=>by
  unfold fU;rw[if_neg hi,if_neg (by dsimp only;omega),if_neg (by dsimp only;omega)]
 by_cases hc:fK d m=0
 ·rw[if_neg (λh=>h hc)] at c1 c2;rw[c1,c2]
  conv=>lhs;rw[<-List.take_append_drop n o.2,QI]
  by_cases hk:(bP m d (o.2.take n)).2=0
  ·rw[if_pos hk,if_pos hk,c3,if_neg (λh=>h (kH hc hk))]
  ·rw[if_neg hk,if_neg hk]
 ·rw[if_pos hc] at c1 c2;rw[c1,c2,if_neg hc]
def o8 {d:aB} {x:aV} {l:List aV} (h:(bP m d (x::l)).2=0):uG d m x/\bP m d (x::l)=bP m (kW d x) l:=by
 have e:bP m d (x::l)=if (bK d m x).2=0 then bP m (bK d m x).1 l else (nF,(bK d m x).2):=rfl
 by_cases hx:(bK d m x).2=0
 ·have hd:=Z5 hx;rw[if_pos hx,hd.eq] at e;exact ⟨hd,e⟩
 ·rw[if_neg hx] at e;rw[e] at h;exact absurd h hx
def BI {d:aB} {o:cN} (h:(fU d m o).2=0):fK d m=0/\fU d m o=bP m d o.2:=by
 unfold fU at h ⊢;split at h
 ·cases h
 split at h
 ·cases h
 split at h
 ·cases h
 split at h
 ·rename_i hc;exact absurd h hc
 ·rename_i h1 h2 h3 h4;exact ⟨Classical.byContradiction h4,by rw[if_neg h1,if_neg h2,if_neg h3,if_neg h4]⟩
def QJ {m:aI}:∀ {l:List aV} {b:Nat} {d:aB},GC b d->NJ d=true->LJ d=true->(∀ x∈l,gC (cQ x)=true/\fF (iN x)=true)->(bP m d l).2=0->GC (b+l.length) (bP m d l).1/\NJ (bP m d l).1=true/\LJ (bP m d l).1=true
 | [],b,d,h,hD,hK,_,_=>⟨h,hD,hK⟩
 | x::l,b,d,h,hD,hK,hE,h0=>by
  obtain ⟨hd,e⟩:=o8 h0;rw[e] at h0 ⊢;obtain ⟨hp,hq⟩:=hE x am;have:=QJ (A3K h) (A3L hD hp) (A3M hK hq) (λy hy=>hE y (List.mem_cons_of_mem _ hy)) h0;rw[List.length_cons,show b+(l.length+1)=b+1+l.length by omega];exact this
def okA (d:aB) (o:cN):Bool:=(NJ d&&LJ d)&&((decide (d.2.1.length<=900)&&decide (d.2.2.1.length<=900))&&(decide (d.2.2.2.1.length<=900)&&(decide (d.2.2.2.2.1.length<=900)&&decide (d.2.2.2.2.2.length<=900))))&&o.2.all λx=>gC (cQ x)&&fF (iN x)
def BK6 {d:aB} {o:cN} {b:Nat} (h:GC b d) (hb:b<=900) (hD:NJ d=true) (hK:LJ d=true) (hE:∀ x∈o.2,gC (cQ x)=true/\fF (iN x)=true):okA d o=true:=by
 obtain ⟨a1,a2,a3,a4,a5⟩:=h;unfold okA;simp only[ac,ah,List.all_eq_true];exact ⟨⟨⟨hD,hK⟩,⟨by omega,by omega⟩,by omega,by omega,by omega⟩,hE⟩
def xT (d:aB) (o:cN):Bool:=(NJ d&&LJ d)&&o.2.all λx=>gC (cQ x)&&fF (iN x)
def IE {d:aB} {o:cN} (hd:InS aD d) (ho:InS b9 o):xT d o=true:=by
 unfold xT;rw[BK8 hd,BK9 hd,Bool.true_and,Bool.true_and];refine List.all_eq_true.2 λx hx=>?_;have h:InS aM x:=ho.2.2.2 x hx;rw[AW4 h.2.2.2.2.1,AW3 h.2.2.2.2.2.2.1];rfl
end Go.Pv
namespace Go.Pv
open Go Go.Proofs IntKind
noncomputable def BGQ:Env:=Env.of [(1000000103,.mark),(64,.pure eZ),(65,.pure dB),(66,.pure G3)]
def BG6:FuncId->Hint:=b8 41 [(12,.inv [.own 9 6 aD,.val 40 false (.int .i64)])] (λ_=>bA)
def AZD:aU Tryz.prog BGQ:=.cons (x:=.mark) trivial (.cons GW (.cons lA (.cons A3Z (.nil _))))
def BTV(a2:cN):List (List T):=List.map aM.enc a2.2
def BT5(s5:List aB×Int×PUnit):List (List T):=List.map aD.enc s5.1
def BUA(R:T->Prop):Prop:=aR aD [] (i64.wrap ((↑0:Int)-1)) λ(y2:aB)=>R (T.cE [aG true aD y2,pPP 0])
def AJR(a0:aB)(a1:aI)(a2:cN)(R:T->Prop):Prop:=aJ BSU (eZ [pPQ a2.1]) λ(y0:Bool)=>aC (!y0) (R (T.cE [T.agg [pPQ ({data:=#[]}),T.sl false [],T.sl false [],T.sl false [], T.sl false [],T.sl false []], pPP 6])) (aC (decide ((↑(BTV a2).length:Int)=0)) (R (T.cE [T.agg BSP, pPP 3])) (aC (decide (32<(↑(BTV a2).length:Int))) (R (T.cE [T.agg BSP, pPP 4])) (aJ BSR (dB [aG true aD a0,aG true aK a1]) λ(y1:Int)=>aC (!decide (y1=0)) (aC (!decide (y1=0)) (R (T.cE [T.agg BSP, pPP y1])) (BUA R)) (dP aD [[pPQ a0.1,T.sl false (BTW a0), T.sl false (BTC a0), T.sl false (BTT a0), T.sl false (BTR a0), T.sl false (BS8 a0)]] λ(y3:List aB)=>bB (List aB×Int×PUnit) (λX4 s5=>aC (decide (s5.2.1<(↑(BTV a2).length:Int))) (aR aM (BTV a2) s5.2.1 λ(y6:aV)=>aR aD (BT5 s5) (i64.wrap ((↑(BT5 s5).length:Int)-1)) λ(y7:aB)=>eR aD (BT5 s5) (i64.wrap ((↑(BT5 s5).length:Int)-1)).toNat 0 λ(y8:aB)=>aJ [(true,aD),(false,Sy.int IntKind.i64)] (G3 [aG true aD y8,aG true aK a1, aG true aM y6]) λ(y9:aB×Int)=>aC (!decide (y9.2=0)) (aC (!decide (y9.2=0)) (R (T.cE [T.agg BSQ, pPP y9.2])) (BUA R)) (bL (decide (((BT5 s5).length+1)*136<=140737488355328) && decide ((BT5 s5).length+1<=140737488355328)) (dP aD (List.map aD.enc s5.1 ++ [[pPQ y9.1.1, T.sl false (List.map bC.enc y9.1.2.1), T.sl false (List.map aN.enc y9.1.2.2.1), T.sl false (List.map bD.enc y9.1.2.2.2.1), T.sl false (List.map aH.enc y9.1.2.2.2.2.1), T.sl false (List.map aZ.enc y9.1.2.2.2.2.2)]]) λ(y11:List aB)=>X4 (y11,i64.wrap (s5.2.1+1),())))) (aR aD (BT5 s5) (i64.wrap ((↑(BT5 s5).length:Int)-1)) λ(y12:aB)=>eR aD (BT5 s5) (i64.wrap ((↑(BT5 s5).length:Int)-1)).toNat 0 λ(y13:aB)=>R (T.cE [aG true aD y13,pPP 0]))) (y3,0,())))))
abbrev ANM:Sh:=[(true,aD),(true,aK),(true,b9)]
noncomputable def I1 (x:aB×aI×cN):Option T:=match okA x.1 x.2.2 with
 | true=>some (Sh.enc [(true,aD),(false,.int .i64)] (fU x.1 x.2.1 x.2.2))
 | false=>none
noncomputable def fX:List T->Option T:=gS ANM I1
def AU1 {a0 a1 a2}:fX [aG true aD a0,aG true aK a1,aG true b9 a2]=I1 (a0,a1,a2):=bH (s:=ANM) rfl (a0,a1,a2) rfl
def BEK:Of3 Tryz.prog 14 fX I1 (cG ANM) AJR:=SW (a1:=(true,aD)) (a2:=(true,aK)) (a3:=(true,b9)) (sp:=I1) (F:=AJR) (Hs:=BG6) (f:=14) (k:=8) AZD aY a6 (aO rfl) ⟨_,_,Tryz.func14,rfl⟩ rfl λ_ _ _ _=>by kernel_rfl
def AQ0 {r:Sy} {l:List r.den} {i:Int} {k:Nat} {y:r.den} {K:r.den->Prop} (hi:i=(k:Int)) (hy:l[k]? = some y) (hk:K y):aR r (List.map r.enc l) i K :=
 ⟨y,by omega,by rw[hi,Int.toNat_natCast];exact sR.2 hy,hk⟩
def A7U {l:List aB} {i k:Nat} {y:aB} {K:aB->Prop} (hi:i=k) (hy:l[k]? = some y) (hk:K y):eR aD (List.map aD.enc l) i 0 K :=
 ⟨_,y,by rw[hi];exact (sR (r:=aD)).2 hy,al _,rfl,hk⟩
def AAC:aP Tryz.prog 14 fX:=BEK λd m o r h hb=>by
 clear hb;obtain ⟨hc,rfl⟩:=jR h;clear h;unfold okA at hc;simp only[ac,ah,List.all_eq_true] at hc;obtain ⟨⟨⟨hD,hK⟩,⟨l1,l2⟩,l3,l4,l5⟩,hE⟩:=hc;unfold AJR BUA BT5 BTV BS8 BTW BTT BTR BTC BSU BSR BSQ BSP;refine aF (s:=[(false,Sy.bool)]) (y:=pS o.1) (WL ..) ?_;refine fJ (λhi=>?_) λhi=>?_
 ·unfold fU;rw[if_pos hi];rfl
 have hi:¬ pS o.1=false:=by rw[hi];decide
 have eO:(List.map aM.enc o.2).length=o.2.length:=ae ..;rw[eO];refine cA (λh1=>?_) λh1=>?_
 ·unfold fU;rw[if_neg hi,if_pos h1];rfl
 refine cA (λh2=>?_) λh2=>?_
 ·unfold fU;rw[if_neg hi,if_neg h1,if_pos h2];rfl
 refine aF (s:=[(false,.int .i64)]) (y:=fK d m) (gU ..) ?_;have hA:fU d m o=if ¬ fK d m=0 then (nF,fK d m) else bP m d o.2:=by
  unfold fU;rw[if_neg hi,if_neg h1,if_neg h2]
 rw[hA];refine lF (λh3=>?_) λh3=>?_
 ·rw[if_pos h3];exact lF (λ_=>rfl) λh=>absurd h h3
 rw[if_neg (λh=>h h3)];clear hA;refine sP (r:=aD) rfl (l:=[d]) rfl ?_;refine bM o.2.length (λk s=>∃ (L:List aB) (c:aB),s=(L,(k:Int),())/\L.length=k+1/\L[k]? = some c/\bP m d o.2=bP m c (o.2.drop k)/\GC (900+k) c/\NJ c=true/\LJ c=true) ⟨[d],d,rfl,rfl,rfl,by rw[List.drop_zero],⟨l1,l2,l3,l4,l5⟩,hD,hK⟩ ?_;rintro X k s hk ⟨L,c,rfl,hL,hLk,hF,hN,hcD,hcK⟩ hX;dsimp only;have hw:i64.wrap (((List.map aD.enc L).length:Int)-1)=(k:Int):=by
  rw[ae,hL];exact (bG _ (by omega) (by omega)).trans (by omega)
 rw[hw];refine cA (λhlt=>?_) λhge=>?_
 ·have hlt:k<o.2.length:=by omega
  rw[bE (r:=aM) hlt];refine AQ0 (r:=aD) rfl hLk (A7U (Int.toNat_natCast k) hLk ?_);obtain ⟨hp,hq⟩:=hE _ (ak hlt);refine aF (s:=[(true,aD),(false,.int .i64)]) (y:=bK c m o.2[k]) (A2J (BE3 hcD hcK hN (by omega)) hp hq) ?_;have hF2:bP m d o.2=if (bK c m o.2[k]).2=0 then bP m (bK c m o.2[k]).1 (o.2.drop (k+1)) else (nF,(bK c m o.2[k]).2):=by
   rw[hF,List.drop_eq_getElem_cons hlt];rfl
  refine lF (λhe=>?_) λhe=>?_
  ·refine lF (λ_=>?_) λh=>absurd h he;rw[hF2,if_neg he];rfl
  ·rw[if_pos he] at hF2;have hd:=Z5 he;refine ⟨by rw[ae,hL,ac];exact ⟨ai (by omega),ai (by omega)⟩,?_⟩;refine sP (r:=aD) rfl (l:=L++[(bK c m o.2[k]).1]) (by rw[List.map_append];rfl) ?_;refine hX _ hlt ⟨_,(bK c m o.2[k]).1,by rw[show i64.wrap ((k:Int)+1)=((k+1:Nat):Int) from bG _ (by omega) (by omega)],by rw[List.length_append,hL];rfl,?_,hF2,?_,?_,?_⟩
   ·rw[List.getElem?_append_right (by omega),hL];simp
   ·rw[hd.eq];exact A3K hN
   ·rw[hd.eq];exact A3L hcD hp
   ·rw[hd.eq];exact A3M hcK hq
 ·have hk2:o.2.drop k=[]:=List.drop_eq_nil_of_le (by omega);refine AQ0 (r:=aD) rfl hLk (A7U (Int.toNat_natCast k) hLk ?_);rw[hF,hk2];rfl
variable {m:aI}
def ATI {d:aB} {o:cN} (h:okA d o=true):fX [aG true aD d,aG true aK m,aG true b9 o]=some (Sh.enc [(true,aD),(false,.int .i64)] (fU d m o)):=by
 rw[AU1];unfold I1;exact dN h
end Go.Pv
namespace Go.Pv
open Go Go.RowKit IntKind
section
variable {α : Type}
def XA {k:iII}:∀ {es:List (iII×α)},fS es k=none->k∉es.map λe=>e.1
 | [],_=>by simp
 | e::es,h=>by
  unfold fS at h;split at h
  ·cases h
  ·rename_i hne;have:=XA h;simp only[List.map_cons,List.mem_cons,not_or];exact ⟨λh'=>hne h'.symm,this⟩
def XB {k s:iII} {x:α}:∀ {es:List (iII×α)},fS (es++[(k,x)]) s=match fS es s with|some y=>some y|none=>if k=s then some x else none
 | []=>by simp[fS]
 | e::es=>by
  simp only[List.cons_append,fS];split
  ·rfl
  ·exact XB
def yC (id:α->iII) (l:List α) (k:Nat) (es:List (iII×α)):Prop :=
 (∀ s,fS es s=(l.take k).find? λx=>decide (id x=s))/\(es.map λe=>e.1).Nodup/\es.length<=k
def yC.zero (id:α->iII) (l:List α):yC id l 0 []:=⟨by simp[fS],by simp,by simp⟩
def yC.no {id:α->iII} {l:List α} {k:Nat} {es:List (iII×α)} (h:yC id l k es) (hk:k<l.length) {y:α} (hy:fS es (id l[k])=some y):yC id l (k+1) es:=by
 refine ⟨λs=>?_,h.2.1,by have:=h.2.2;omega⟩;rw[List.take_succ_eq_append_getElem hk,List.find?_append,<-h.1];cases hs:fS es s with
 | some z=>rfl
 | none =>
  rw[Option.none_or,List.find?_cons];split
  ·rename_i he;rw[of_decide_eq_true he,hs] at hy;cases hy
  ·rfl
def yC.yes {id:α->iII} {l:List α} {k:Nat} {es:List (iII×α)} (h:yC id l k es) (hk:k<l.length) (hy:fS es (id l[k])=none):yC id l (k+1) (es++[(id l[k],l[k])]):=by
 refine ⟨λs=>?_,?_,by have:=h.2.2;simp;omega⟩
 ·rw[List.take_succ_eq_append_getElem hk,List.find?_append,<-h.1,XB];cases hs:fS es s with
  | some z=>rfl
  | none =>
   rw[Option.none_or,List.find?_cons];by_cases he:id l[k]=s
   ·simp[he]
   ·simp[he]
 ·rw[List.map_append,List.nodup_append];refine ⟨h.2.1,by simp,λa ha b hb e=>?_⟩;simp only[List.map_cons,List.map_nil,List.mem_singleton] at hb;subst hb e;exact XA hy ha
end
section
variable {β : Type} {lt : β -> β -> Prop}
structure A2C (lt:β->β->Prop):Prop where
 irr:∀ a,¬ lt a a
 tr:∀ {a b c},lt a b->lt b c->lt a c
 tot:∀ {a b},¬ lt a b->¬ lt b a->a=b
def NT (lt:β->β->Prop) (begun:Bool) (last s:β):Prop:=begun=false\/lt last s
def pO (lt:β->β->Prop) (all:List β) (begun:Bool) (last:β) (k:Nat) (nx:β) (sm:Bool):Prop :=
 (sm=false->∀ s∈all.take k,¬ NT lt begun last s)/\(sm=true->nx∈all/\NT lt begun last nx/\∀ s∈all.take k,NT lt begun last s->¬ lt s nx)
def pO.zero (all:List β) (begun:Bool) (last nx:β):pO lt all begun last 0 nx false:=⟨by simp,by simp⟩
variable {begun sm:Bool}
def pO.take (ho:A2C lt) {all:List β} {last:β} {k:Nat} {nx:β} (h:pO lt all begun last k nx sm) (hk:k<all.length)
  (he:NT lt begun last all[k]) (hc:sm=false\/lt all[k] nx):pO lt all begun last (k+1) all[k] true:=by
 refine ⟨by simp,λ_=>⟨ak hk,he,λs hs hes=>?_⟩⟩;rw[List.take_succ_eq_append_getElem hk,List.mem_append] at hs;rcases hs with hs|hs
 ·cases sm with
  | false=>exact absurd hes (h.1 rfl s hs)
  | true =>
   have hlt:=hc.resolve_left (by simp);exact λh'=>(h.2 rfl).2.2 s hs hes (ho.tr h' hlt)
 ·rw[List.mem_singleton.1 hs];exact ho.irr _
def pO.skip {all:List β} {last:β} {k:Nat} {nx:β} (h:pO lt all begun last k nx sm) (hk:k<all.length)
  (hc:¬ NT lt begun last all[k]\/(sm=true/\¬ lt all[k] nx)):pO lt all begun last (k+1) nx sm:=by
 refine ⟨λe s hs=>?_,λe=>⟨(h.2 e).1,(h.2 e).2.1,λs hs hes=>?_⟩⟩
 ·rw[List.take_succ_eq_append_getElem hk,List.mem_append] at hs;rcases hs with hs|hs
  ·exact h.1 e s hs
  ·rw[List.mem_singleton.1 hs];rcases hc with hc|⟨hc,_⟩
   ·exact hc
   ·rw[hc] at e;cases e
 ·rw[List.take_succ_eq_append_getElem hk,List.mem_append] at hs;rcases hs with hs|hs
  ·exact (h.2 e).2.2 s hs hes
  ·rw[List.mem_singleton.1 hs] at hes ⊢;rcases hc with hc|⟨_,hc⟩
   ·exact absurd hes hc
   ·exact hc
def tU (lt:β->β->Prop) (all:List β) (D:β->Prop) (out:List β) (begun:Bool) (last:β):Prop :=
 out.Pairwise lt/\∀ s,s∈out↔s∈all/\D s/\¬ NT lt begun last s
def tU.zero (all:List β) (D:β->Prop) (last:β):tU lt all D [] false last:=⟨List.Pairwise.nil,λs=>by simp[NT]⟩
def AN (ho:A2C lt) {all:List β} {last nx:β} (h:pO lt all begun last all.length nx true) {s:β} (hs:s∈all):¬ NT lt true nx s↔¬ NT lt begun last s\/s=nx:=by
 have h2:=(h.2 rfl).2;rw[List.take_length] at h2;have e1:NT lt true nx s↔lt nx s:=by simp[NT]
 rw[e1];constructor
 ·intro hn;by_cases he:NT lt begun last s
  ·exact .inr (ho.tot (h2.2 s hs he) hn)
  ·exact .inl he
 ·rintro (hn|rfl)
  ·intro hl;refine hn ?_;rcases h2.1 with h3|h3
   ·exact .inl h3
   ·exact .inr (ho.tr h3 hl)
  ·exact ho.irr _
def tU.skip (ho:A2C lt) {all:List β} {D:β->Prop} {out:List β} {last nx:β} (h:tU lt all D out begun last) (hl:pO lt all begun last all.length nx true) (hd:¬ D nx):tU lt all D out true nx:=by
 refine ⟨h.1,λs=>?_⟩;rw[h.2];constructor
 ·rintro ⟨h1,h2,h3⟩;exact ⟨h1,h2,(AN ho hl h1).2 (.inl h3)⟩
 ·rintro ⟨h1,h2,h3⟩;rcases (AN ho hl h1).1 h3 with h3|rfl
  ·exact ⟨h1,h2,h3⟩
  ·exact absurd h2 hd
def tU.take (ho:A2C lt) {all:List β} {D:β->Prop} {out:List β} {last nx:β} (h:tU lt all D out begun last) (hl:pO lt all begun last all.length nx true) (hd:D nx):tU lt all D (out++[nx]) true nx:=by
 have hn:=hl.2 rfl;refine ⟨List.pairwise_append.2 ⟨h.1,by simp,λa ha b hb=>?_⟩,λs=>?_⟩
 ·rw[List.mem_singleton.1 hb];have ha':=(h.2 a).1 ha;refine Classical.byContradiction λhlt=>?_;have:¬ lt nx a:=λh'=>ha'.2.2 (by
   rcases hn.2.1 with h3|h3
   ·exact .inl h3
   ·exact .inr (ho.tr h3 h'))
  exact ha'.2.2 (by rw[ho.tot hlt this];exact hn.2.1)
 ·rw[List.mem_append,h.2,List.mem_singleton];constructor
  ·rintro (⟨h1,h2,h3⟩|rfl)
   ·exact ⟨h1,h2,(AN ho hl h1).2 (.inl h3)⟩
   ·exact ⟨hn.1,hd,(AN ho hl hn.1).2 (.inr rfl)⟩
  ·rintro ⟨h1,h2,h3⟩;rcases (AN ho hl h1).1 h3 with h3|rfl
   ·exact .inl ⟨h1,h2,h3⟩
   ·exact .inr rfl
def tU.done {all:List β} {D:β->Prop} {out:List β} {last nx:β} (h:tU lt all D out begun last) (hl:pO lt all begun last all.length nx false):out.Pairwise lt/\∀ s,s∈out↔s∈all/\D s:=by
 refine ⟨h.1,λs=>?_⟩;rw[h.2];have:=hl.1 rfl;rw[List.take_length] at this;exact ⟨λ⟨a,b,_⟩=>⟨a,b⟩,λ⟨a,b⟩=>⟨a,b,this s a⟩⟩
open Classical in
open Classical in
end
end Go.Pv
namespace Go.Pv
open Go Go.Proofs Go.RowKit Go.Sort Go.Shelf IntKind
def toL (b:iII):List UInt8:=b.data.toList
def ofL (a:List UInt8):iII:=⟨a.toArray⟩
def iX (b:iII):ofL (toL b)=b:=by cases b;simp[ofL,toL]
def toL_ofL (a:List UInt8):toL (ofL a)=a:=by simp[ofL,toL]
def lV (q:List (List UInt8)->List (List UInt8)) (l:List iII):List iII:=(q (l.map toL)).map ofL
def LQ (q:List (List UInt8)->List (List UInt8)) (l:List iII):(q (l.map toL)).map (λa=>[T.v (encStr a)])=List.map Sy.str.enc (lV q l):=by
 unfold lV;rw[List.map_map];rfl
def eQ (l:List (List UInt8)):List (List UInt8):=l.mergeSort λx y=>decide (x<=y)
def rS (rows:List (List T)):Option (List (List T)):=(GJ rows).map λl=>(eQ l).map λa=>[.v (encStr a)]
def zL (l:List iII) (K:List (List T)->Prop):eT (List (List T)) (rS (List.map Sy.str.enc l)) K=K (List.map Sy.str.enc (lV eQ l)):=by
 have e:rS (List.map Sy.str.enc l)=some (List.map Sy.str.enc (lV eQ l)):=by
  unfold rS;rw[BJ];exact congrArg some (LQ ..)
 rw[e];exact propext ⟨λ⟨y,h1,h2⟩=>by cases h1;exact h2,λh=>⟨_,rfl,h⟩⟩
def KE:cI Tryz.prog 71 (yU 1 rS) :=
 AXA (f:=71) encStr (λ_=>rfl) GJ EW eQ (λl=>by unfold eQ;simp) ⟨_,Tryz.func71,rfl,rfl⟩
  (λbN cap zs w hH hb hs=>Any.slices_Sort_string Tryz.AP1 bN 0 cap zs w hH hb hs) (λp cap w=>Any.slices_Sort_string_none Tryz.AP1 p cap w)
def QV (l:List (List UInt8)):(Lib.compact l).length<=l.length:=by
 unfold Lib.compact;unfold Lib.compactUpTo;rw[ae];exact Nat.le_trans (List.length_filter_le _ _) (by simp)
def noA:List T->Bool
 | []=>true
 | _=>false
def fD:List (List T)->List T->Option (List (List T)):=KG Lib.compact noA true
def AU5 (l:List iII) (K:List iII->Prop):bW .str (fD (List.map Sy.str.enc l) []) K=K (lV Lib.compact l):=by
 have e:fD (List.map Sy.str.enc l) []=some (List.map Sy.str.enc (lV Lib.compact l)):=by
  unfold fD KG;simp only[noA,Bool.true_or,Bool.and_self];rw[BJ];exact congrArg some (LQ ..)
 rw[e];exact propext ⟨λ⟨y,h1,h2⟩=>by rw[map_inj (Sy.dV .str) (Option.some.inj h1)];exact h2,λh=>⟨_,rfl,h⟩⟩
def BC3:cI Tryz.prog 111 (kL 1 fD) :=
 SD (f:=111) Lib.compact QV rfl noA true #[] (λts w cx ρ σ vs h _ hl=>by
   cases ts with
   | nil=>exact List.length_eq_zero_iff.1 hl
   | cons=>cases h) ⟨_,Tryz.func111,rfl,rfl⟩
  (λbN cap zs w hH hb hs hc=>Any.slices_Compact_string Tryz.AP2 bN 0 cap zs w hH (by omega) hc) (λ_ a cap w=>Any.slices_Compact_string_empty Tryz.AP2 a cap w)
def BPV:Ren:=⟨λ|10=>110|6=>244|n=>n,λ|22=>62|23=>9|25=>31|n=>n,λ|n=>n⟩
def BPQ:SlLaysH.n10 Tryz.prog BPV:={
 mixed:=aY
 f6:=Exists.intro ("slices.IndexFunc[[]string,string]") ⟨by decide,Tryz.func244.trans (congrArg some (by kernel_rfl))⟩
 f10:=Exists.intro ("slices.DeleteFunc[[]string,string]") ⟨by decide,Tryz.func110.trans (congrArg some (by kernel_rfl))⟩
 t0:=by kernel_rfl
 a0:=λ_=>by kernel_rfl
 z0:=λ_=>by kernel_rfl
 v0:=λ_=>by kernel_rfl
 t3:=by kernel_rfl
 a3:=λ_=>by kernel_rfl
 z3:=λ_=>by kernel_rfl
 v3:=λ_=>by kernel_rfl
 t4:=by kernel_rfl
 a4:=λ_=>by kernel_rfl
 z4:=λ_=>by kernel_rfl
 v4:=λ_=>by kernel_rfl
 t22:=by kernel_rfl
 a22:=λ_=>by kernel_rfl
 z22:=λ_=>by kernel_rfl
 v22:=λ_=>by kernel_rfl
 a23:=λ_=>by kernel_rfl
 z23:=λ_=>by kernel_rfl
 t25:=by kernel_rfl
 a25:=λ_=>by kernel_rfl
 z25:=λ_=>by kernel_rfl
 v25:=λ_=>by kernel_rfl }
def Z6 (x:List UInt8):Bool:=x.isEmpty
def NB (x:List UInt8) (W:World):FnGives Tryz.prog 112 #[] #[encStr x] (.bool (Z6 x)) W:=by
 show Calls Tryz.prog 112 #[encStr x] W _
 go_enter Tryz.func112,Tryz.ntmps112
 go_wp2
 all_goals (go_ret;exact ⟨rfl,0,rfl⟩)
def GM (l:List (List UInt8)):List (List UInt8):=l.filter λx=>!Z6 x
def ALA:List T->Bool
 | [.fn f [] []]=>decide (f=112)
 | _=>false
def fE:List (List T)->List T->Option (List (List T)):=KG GM ALA false
def AU6 (l:List iII) (hl:l≠[]) (K:List iII->Prop):bW .str (fE (List.map Sy.str.enc l) [.fn 112 [] []]) K=K (lV GM l):=by
 have e:fE (List.map Sy.str.enc l) [.fn 112 [] []]=some (List.map Sy.str.enc (lV GM l)):=by
  have h0:(List.map Sy.str.enc l).isEmpty=false:=by cases l;exact absurd rfl hl;rfl
  unfold fE KG;rw[h0];show (GJ (List.map Sy.str.enc l)).map _=_;rw[BJ];exact congrArg some (LQ ..)
 rw[e];exact propext ⟨λ⟨y,h1,h2⟩=>by rw[map_inj (Sy.dV .str) (Option.some.inj h1)];exact h2,λh=>⟨_,rfl,h⟩⟩
def BC4:cI Tryz.prog 110 (kL 1 fE) :=
 SD (f:=110) GM (λl=>List.length_filter_le _ _) rfl ALA false #[.func (.func 112) #[] #[]] (λts w cx ρ σ vs h hr hl=>by
   unfold ALA at h;split at h
   ·rename_i f;have hf:f=112:=of_decide_eq_true h;subst hf
    match vs,hl with
    | [v],_ =>
     have h0:=hr 0 (by simp);simp only[List.getElem_cons_zero,List.getD_cons_zero] at h0;cases h0 with
     | p _ _ h0 =>
      cases h0 with
      | fn _ _ _ va vb h1 h2 _ _ =>
       have e1:va = #[]:=Array.eq_empty_of_size_eq_zero h1;have e2:vb = #[]:=Array.eq_empty_of_size_eq_zero h2;subst e1 e2;rfl
   ·cases h) ⟨_,Tryz.func110,rfl,rfl⟩
  (λbN cap zs w hH hb hs hc=>by
   have h:=AnyE.slices_DeleteFunc BPQ encStr (λ_=>rfl) Z6 112 #[] (enters_of Tryz.func112 (by kernel_rfl) rfl) [] (λw=>by kernel_rfl) bN 0 cap zs.toArray w (λW x _=>NB x W) (λn os dk x _=>NB x _) hH (by simpa using (by omega)) (by simpa using hc);change Calls Tryz.prog 110 _ _ _ at h;simpa [GM] using h) (λh=>by cases h)
def BLH:Ren:=⟨λ|4=>293|n=>n,λ|20=>20|22=>62|25=>9|n=>n,λ|n=>n⟩
def BPR:Lays8.n4 Tryz.prog BLH:={
 mixed:=aY
 f4:=Exists.intro ("slices.Grow[[]string,string]") ⟨by decide,Tryz.func293.trans (congrArg some (by kernel_rfl))⟩
 t0:=by kernel_rfl
 a0:=λ_=>by kernel_rfl
 z0:=λ_=>by kernel_rfl
 v0:=λ_=>by kernel_rfl
 t3:=by kernel_rfl
 a3:=λ_=>by kernel_rfl
 z3:=λ_=>by kernel_rfl
 v3:=λ_=>by kernel_rfl
 t4:=by kernel_rfl
 a4:=λ_=>by kernel_rfl
 z4:=λ_=>by kernel_rfl
 v4:=λ_=>by kernel_rfl
 t9:=by kernel_rfl
 a9:=λ_=>by kernel_rfl
 z9:=λ_=>by kernel_rfl
 v9:=λ_=>by kernel_rfl
 t20:=by kernel_rfl
 a20:=λ_=>by kernel_rfl
 z20:=λ_=>by kernel_rfl
 v20:=λ_=>by kernel_rfl
 t22:=by kernel_rfl
 a22:=λ_=>by kernel_rfl
 z22:=λ_=>by kernel_rfl
 v22:=λ_=>by kernel_rfl }
def BOB:∃ i0,Tryz.prog.info? (BLH.t 25)=some i0/\i0.zero=some (.string ⟨#[]⟩)/\i0.size=1/\i0.bytes=16:=by
 have h:(Tryz.prog.info? (BLH.t 25)).map (λi=>(i.zero,i.size,i.bytes))=some (some (Value.string ⟨#[]⟩),1,16):=by kernel_rfl
 simp only[aa,Prod.mk.injEq] at h;obtain ⟨i,h1,h2,h3,h4⟩:=h;exact ⟨i,h1,h2,h3,h4⟩
def BDI:cI Tryz.prog 293 (M4 1 16) :=
 AXI BPR BOB (by decide) rfl (by decide) ⟨_,Tryz.func293,rfl,rfl⟩
end Go.Pv
namespace Go.Pv
open Go Go.Proofs IntKind
def dZ:List (List T)->Option (List (List T)):=rS
def AMB (l:List iII) (K:List (List T)->Prop):eT (List (List T)) (dZ (List.map Sy.str.enc l)) K=K (List.map Sy.str.enc (lV eQ l)):=zL l K
def A4B:cI Tryz.prog 71 (yU 1 dZ):=KE
noncomputable def AY5:Env:=Env.of [(1000000062,.mark),(1000000279,.mark),(71,.perm 1 dZ),(111,.grow 1 fD),(110,.grow 1 fE),(293,.room 1 16)]
def A17:FuncId->Hint:=b8 223 [(3,.UI 4),(11,.UI 4)] (λ_=>bA)
def AJJ:aU Tryz.prog AY5:=.cons (x:=.mark) trivial (.cons (x:=.mark) trivial (.cons A4B (.cons BC3 (.cons BC4 (aU.cons (x:=.room 1 16) BDI (.nil _))))))
def BSV:List T:=[T.fn 112 [] []]
def BS3(y1:List iII):List (List T):=List.map Sy.str.enc y1
def BTF(a0:aV):List (List T):=List.map Sy.str.enc a0.2.2.2.2.2.2.1.2.2.2.2
def BTH(a0:aV):List (List T):=List.map Sy.str.enc a0.2.2.2.2.2.2.1.2.2.1
def BTN(a0:aV):List T:=[pPQ a0.2.2.2.2.2.2.1.2.1]
def BTP(a0:aV):List T:=[pPQ a0.2.2.2.2.2.2.1.1]
def BS4(a0:aV):List (List T):=[[T.sl false [(BTP a0), (BTN a0)]], [T.sl false (BTH a0)], [T.sl false (BTF a0)]]
def BS6(y0:List (List T))(R:T->Prop):Prop:=bW Sy.str (fD y0 []) λ(y1:List iII)=>bW Sy.str (fE (BS3 y1) BSV) λ(y2:List iII)=>R (T.sl false (BS3 y2))
def BUG(a0:aV):List T:=[pPQ a0.2.1]
def BTD(a0:aV)(R:T->Prop):Prop:=bL true (eT (List (List T)) (dZ [(BUG a0).reverse]) λ(y3:List (List T))=>BS6 y3 R)
def BS1(a0:aV)(R:T->Prop):Prop:=aC (decide (a0.1=9)) (aR Sy.str.li (BS4 a0) 0 λ(y42:List iII)=>eR Sy.str.li (BS4 a0) (Int.toNat 0) 0 λ(y43:List iII)=>aC (decide (i64.wrap (0+(↑(BS3 y43).length:Int))<0)) (oE 162) (aR Sy.str.li (BS4 a0) (i64.wrap (0+1)) λ(y44:List iII)=>eR Sy.str.li (BS4 a0) 1 0 λ(y45:List iII)=>aC (decide (i64.wrap (i64.wrap (0+(↑(BS3 y43).length:Int)) + (↑(BS3 y45).length:Int)) < 0)) (oE 162) (aR Sy.str.li (BS4 a0) (i64.wrap (i64.wrap (0+1)+1)) λ(y46:List iII)=>eR Sy.str.li (BS4 a0) 2 0 λ(y47:List iII)=>aC (decide (i64.wrap (i64.wrap (i64.wrap (0+(↑(BS3 y43).length:Int)) + (↑(BS3 y45).length:Int)) + (↑(BS3 y47).length:Int)) < 0)) (oE 162) (bL (decide (0 <= i64.wrap (i64.wrap (i64.wrap (0+(↑(BS3 y43).length:Int)) + (↑(BS3 y45).length:Int)) + (↑(BS3 y47).length:Int))) && decide ((i64.wrap (i64.wrap (i64.wrap (0+(↑(BS3 y43).length:Int)) + (↑(BS3 y45).length:Int)) + (↑(BS3 y47).length:Int))).toNat * 16 <= 140737488355328) && decide ((i64.wrap (i64.wrap (i64.wrap (0+(↑(BS3 y43).length:Int)) + (↑(BS3 y45).length:Int)) + (↑(BS3 y47).length:Int))).toNat <= 140737488355328)) (aR Sy.str.li (BS4 a0) 0 λ(y48:List iII)=>eR Sy.str.li (BS4 a0) (Int.toNat 0) 0 λ(y49:List iII)=>bL (eE 1 (BS3 y49) && decide ((0+(BS3 y49).length)*16 <= 140737488355328) && decide (0+(BS3 y49).length<=140737488355328)) (aR Sy.str.li (BS4 a0) (i64.wrap (0+1)) λ(y50:List iII)=>eR Sy.str.li (BS4 a0) 1 0 λ(y51:List iII)=>bL (eE 1 (BS3 y51) && decide ((([]++List.map Sy.str.enc y49).length + (BS3 y51).length) * 16 <= 140737488355328) && decide (([]++List.map Sy.str.enc y49).length + (BS3 y51).length <= 140737488355328)) (aR Sy.str.li (BS4 a0) (i64.wrap (i64.wrap (0+1)+1)) λ(y52:List iII)=>eR Sy.str.li (BS4 a0) 2 0 λ(y53:List iII)=>bL (eE 1 (BS3 y53) && decide ((([]++List.map Sy.str.enc y49 ++ List.map Sy.str.enc y51).length + (BS3 y53).length) * 16 <= 140737488355328) && decide (([]++List.map Sy.str.enc y49 ++ List.map Sy.str.enc y51).length + (BS3 y53).length <= 140737488355328)) (bL (eE 1 ([]++List.map Sy.str.enc y49 ++ List.map Sy.str.enc y51 ++ List.map Sy.str.enc y53) && true && decide (([]++List.map Sy.str.enc y49 ++ List.map Sy.str.enc y51 ++ List.map Sy.str.enc y53).length * 16 <= 140737488355328) && decide (([]++List.map Sy.str.enc y49 ++ List.map Sy.str.enc y51 ++ List.map Sy.str.enc y53).length <= 140737488355328)) (eT (List (List T)) (dZ ([]++List.map Sy.str.enc y49 ++ List.map Sy.str.enc y51 ++ List.map Sy.str.enc y53)) λ(y54:List (List T))=>bW Sy.str (fD y54 []) λ(y55:List iII)=>bW Sy.str (fE (BS3 y55) BSV) λ(y56:List iII)=>R (T.sl false (BS3 y56))))))))))) (BTD a0 R)
def BTM(a0:aV)(R:T->Prop):Prop:=bL true (eT (List (List T)) (dZ [[pPQ a0.2.2.2.2.1.1].reverse, [pPQ a0.2.2.2.2.1.2.2.2.1].reverse]) λ(y12:List (List T))=>BS6 y12 R)
def BTS(a0:aV)(R:T->Prop):Prop:=aC (decide (a0.1=7)) (bL true (eT (List (List T)) (dZ [[pPQ a0.2.2.2.2.2.1.1].reverse, [pPQ a0.2.2.2.2.2.1.2.1].reverse, [pPQ a0.2.2.2.2.2.1.2.2.1].reverse]) λ(y30:List (List T))=>BS6 y30 R)) (BTD a0 R)
def BTX(a0:aV)(R:T->Prop):Prop:=aC (decide (a0.1=1)) (bL true (eT (List (List T)) (dZ [[pPQ a0.2.2.2.1.1].reverse, [pPQ a0.2.2.2.1.2.2].reverse]) λ(y0:List (List T))=>BS6 y0 R)) (BTD a0 R)
def BT0(a0:aV)(R:T->Prop):Prop:=bL true (eT (List (List T)) (dZ [[pPQ a0.2.2.2.2.2.2.2.2.1].reverse, [pPQ a0.2.2.2.2.2.2.2.2.2].reverse]) λ(y78:List (List T))=>BS6 y78 R)
def P3(a0:aV)(R:T->Prop):Prop:=aC (decide (a0.1=1)) (BTX a0 R) (aC (decide (a0.1=2)) (BTX a0 R) (aC (decide (a0.1=3)) (aC (decide (a0.1=3)) (BTM a0 R) (BTD a0 R)) (aC (decide (a0.1=4)) (aC (decide (a0.1=3)) (BTM a0 R) (BTD a0 R)) (aC (decide (a0.1=5)) (BTM a0 R) (aC (decide (a0.1=6)) (bL true (eT (List (List T)) (dZ [(BUG a0).reverse, [pPQ a0.2.2.1].reverse]) λ(y27:List (List T))=>BS6 y27 R)) (aC (decide (a0.1=7)) (BTS a0 R) (aC (decide (a0.1=8)) (BTS a0 R) (aC (decide (a0.1=9)) (BS1 a0 R) (aC (decide (a0.1=10)) (BS1 a0 R) (aC (decide (a0.1=11)) (BT0 a0 R) (aC (decide (a0.1=12)) (BT0 a0 R) (R (T.sl false [])))))))))))))
abbrev TW:Sh:=[(true,aM)]
def AK4 {zs:List (List UInt8)} (h:zs≠[]):Lib.compact zs≠[]:=by
 cases zs with
 | nil=>exact absurd rfl h
 | cons a l =>
  unfold Lib.compact Lib.compactUpTo;intro e;rw[List.map_eq_nil_iff,List.filter_eq_nil_iff] at e;exact e 0 (List.mem_range.2 (by simp)) (Lib.keeps_lt_one _ 0 (by omega))
def ARB {q:List (List UInt8)->List (List UInt8)} (hq:∀ l,l≠[]->q l≠[]) {l:List iII} (h:l≠[]):lV q l≠[]:=by
 unfold lV;rw[Ne,List.map_eq_nil_iff];exact hq _ (by rw[Ne,List.map_eq_nil_iff];exact h)
def AXO {l:List (List UInt8)} (h:l≠[]):eQ l≠[]:=by
 unfold eQ;intro e;have:=congrArg List.length e;rw[List.length_mergeSort] at this;exact h (List.length_eq_zero_iff.1 this)
def iG (l:List iII):List iII:=lV GM (lV Lib.compact (lV eQ l))
def AV4:iG []=[]:=by
 have e:eQ []=[]:=by unfold eQ;simp
 unfold iG lV;rw[List.map_nil,e];rfl
variable {y:List iII}{K:List iII->Prop}
def YB {l:List (List iII)} {rows:List (List T)} {i:Int} {k:Nat} (hr:rows=List.map (Sy.li .str).enc l) (hi:i=(k:Int)) (hy:l[k]? = some y) (hk:K y):aR (.li .str) rows i K :=
 ⟨y,by omega,by rw[hr,hi,Int.toNat_natCast];exact sR.2 hy,hk⟩
def XW {l:List (List iII)} {rows:List (List T)} {k:Nat} (hr:rows=List.map (Sy.li .str).enc l) (hy:l[k]? = some y) (hk:K y):eR (.li .str) rows k 0 K :=
 ⟨_,y,by rw[hr];exact sR.2 hy,al _,rfl,hk⟩
variable {L:List iII}{R:T->Prop}
def SM (hL:L≠[]) {rows:List (List T)} (hr:rows=List.map Sy.str.enc L) (h:R (T.sl false (List.map Sy.str.enc (iG L)))) :
  eT (List (List T)) (dZ rows) λy0=>bW Sy.str (fD y0 []) λy1=>bW Sy.str (fE (List.map Sy.str.enc y1) [T.fn 112 [] []]) λy2=>R (T.sl false (List.map Sy.str.enc y2)):=by
 subst hr;rw[AMB,AU5,AU6 _ (ARB (λl=>AK4) (ARB (λl=>AXO) hL))];exact h
def bQ (x:aV):List iII :=
 if x.1=1 then [x.2.2.2.1.1,x.2.2.2.1.2.2]
 else if x.1=2\/x.1=4\/x.1=8\/x.1=10 then [x.2.1]
 else if x.1=3\/x.1=5 then [x.2.2.2.2.1.1,x.2.2.2.2.1.2.2.2.1]
 else if x.1=6 then [x.2.1,x.2.2.1]
 else if x.1=7 then [x.2.2.2.2.2.1.1,x.2.2.2.2.2.1.2.1,x.2.2.2.2.2.1.2.2.1]
 else if x.1=9 then ([x.2.2.2.2.2.2.1.1,x.2.2.2.2.2.2.1.2.1]++x.2.2.2.2.2.2.1.2.2.1)++x.2.2.2.2.2.2.1.2.2.2.2
 else if x.1=11\/x.1=12 then [x.2.2.2.2.2.2.2.2.1,x.2.2.2.2.2.2.2.2.2]
 else []
def SX (x:aV):Bool:=decide (x.2.2.2.2.2.2.1.2.2.1.length<=1000000)&&decide (x.2.2.2.2.2.2.1.2.2.2.2.length<=1000000)
def vT (x:aV):Option T:=match SX x with
 | true=>some (T.sl false (List.map Sy.str.enc (iG (bQ x))))
 | false=>none
noncomputable def rT:List T->Option T:=gS TW vT
def AF5 {a0}:rT [aG true aM a0]=vT (a0):=bH (s:=TW) rfl (a0) rfl
def AWX:xX Tryz.prog 70 rT vT (cG TW) P3:=kC (a1:=(true,aM)) (sp:=vT) (F:=P3) (Hs:=A17) (f:=70) (k:=9) AJJ aY a6 (aO rfl) ⟨_,_,Tryz.func70,rfl⟩ rfl λ_ _=>by kernel_rfl
def tD {c:Bool} {a r:T} (h:(match c with|true=>some a|false=>none)=some r):c=true/\a=r:=by
 cases c with
 | true=>exact ⟨rfl,Option.some.inj h⟩
 | false=>cases h
def yE {l:List iII}:eE 1 (List.map Sy.str.enc l)=true:=uH .str l
def AUR:aP Tryz.prog 70 rT:=AWX λx r h hb=>by
 clear hb;obtain ⟨hp,rfl⟩:=tD h;clear h;unfold SX at hp;rw[ac,ah,ah] at hp;obtain ⟨hp1,hp2⟩:=hp;have go:∀ {L:List iII} {rows:List (List T)},bQ x=L->L≠[]->rows=List.map Sy.str.enc L->eT (List (List T)) (dZ rows) λy0=>bW Sy.str (fD y0 []) λy1=>bW Sy.str (fE (List.map Sy.str.enc y1) [T.fn 112 [] []]) λy2=>T.sl false (List.map Sy.str.enc y2)=T.sl false (List.map Sy.str.enc (iG (bQ x))):=λ{L} {rows} e hn hr=>by
  rw[e];exact SM (R:=λy=>y=T.sl false (List.map Sy.str.enc (iG L))) hn hr rfl
 unfold P3 BT0 BTX BTS BTM BS1 BTD BUG BS6 BS4 BTP BTN BTH BTF BS3 BSV;have e1:x.1=1->bQ x=[x.2.2.2.1.1,x.2.2.2.1.2.2]:=λh=>by simp only[bQ,h,if_true]
 have e2:x.1=2\/x.1=4\/x.1=8\/x.1=10->bQ x=[x.2.1]:=λh=>by
  unfold bQ;rw[if_neg (by omega),if_pos h]
 have e3:x.1=3\/x.1=5->bQ x=[x.2.2.2.2.1.1,x.2.2.2.2.1.2.2.2.1]:=λh=>by
  unfold bQ;rw[if_neg (by omega),if_neg (by omega),if_pos h]
 have e6:x.1=6->bQ x=[x.2.1,x.2.2.1]:=λh=>by
  unfold bQ;rw[if_neg (by omega),if_neg (by omega),if_neg (by omega),if_pos h]
 have e7:x.1=7->bQ x=[x.2.2.2.2.2.1.1,x.2.2.2.2.2.1.2.1,x.2.2.2.2.2.1.2.2.1]:=λh=>by
  unfold bQ;rw[if_neg (by omega),if_neg (by omega),if_neg (by omega),if_neg (by omega),if_pos h]
 have e9:x.1=9->bQ x=([x.2.2.2.2.2.2.1.1,x.2.2.2.2.2.2.1.2.1]++x.2.2.2.2.2.2.1.2.2.1)++x.2.2.2.2.2.2.1.2.2.2.2:=λh=>by
  unfold bQ;rw[if_neg (by omega),if_neg (by omega),if_neg (by omega),if_neg (by omega),if_neg (by omega),if_pos h]
 have e11:x.1=11\/x.1=12->bQ x=[x.2.2.2.2.2.2.2.2.1,x.2.2.2.2.2.2.2.2.2]:=λh=>by
  unfold bQ;rw[if_neg (by omega),if_neg (by omega),if_neg (by omega),if_neg (by omega),if_neg (by omega),if_neg (by omega),if_pos h]
 refine cA (λh=>cA (λ_=>⟨rfl,go (e1 h) (by simp) rfl⟩) λh'=>absurd h h') λn1=>?_;refine cA (λh=>cA (λh'=>by omega) λ_=>⟨rfl,go (e2 (by omega)) (by simp) rfl⟩) λn2=>?_;refine cA (λh=>cA (λ_=>⟨rfl,go (e3 (by omega)) (by simp) rfl⟩) λh'=>absurd h h') λn3=>?_;refine cA (λh=>cA (λh'=>by omega) λ_=>⟨rfl,go (e2 (by omega)) (by simp) rfl⟩) λn4=>?_;refine cA (λh=>⟨rfl,go (e3 (by omega)) (by simp) rfl⟩) λn5=>?_;refine cA (λh=>⟨rfl,go (e6 (by omega)) (by simp) rfl⟩) λn6=>?_;refine cA (λh=>cA (λ_=>⟨rfl,go (e7 (by omega)) (by simp) rfl⟩) λh'=>absurd h h') λn7=>?_;refine cA (λh=>cA (λh'=>by omega) λ_=>⟨rfl,go (e2 (by omega)) (by simp) rfl⟩) λn8=>?_;refine cA (λh=>cA (λ_=>?_) λh'=>absurd h h') λn9=>?_
 ·have w1:i64.wrap (0+1)=1:=rfl;have w2:i64.wrap (1+1)=2:=rfl;rw[e9 h];generalize hA:[x.2.2.2.2.2.2.1.1,x.2.2.2.2.2.2.1.2.1]=A;have hAl:A.length=2:=by rw[<-hA];rfl
  clear e1 e2 e3 e6 e7 e11;generalize x.2.2.2.2.2.2.1.2.2.1=B at hp1 ⊢;generalize x.2.2.2.2.2.2.1.2.2.2.2=C at hp2 ⊢;have l1:i64.wrap (0+((List.map Sy.str.enc A).length:Int))=2:=by rw[ae,hAl];rfl
  have l2:i64.wrap (2+((List.map Sy.str.enc B).length:Int))=2+(B.length:Int):=by rw[ae];exact bG _ (by omega) (by omega)
  have l3:i64.wrap (2+(B.length:Int)+((List.map Sy.str.enc C).length:Int))=2+(B.length:Int)+(C.length:Int):=by rw[ae];exact bG _ (by omega) (by omega)
  have hR:[[T.sl false [[pPQ x.2.2.2.2.2.2.1.1],[pPQ x.2.2.2.2.2.2.1.2.1]]],[T.sl false (List.map Sy.str.enc B)],[T.sl false (List.map Sy.str.enc C)]]=List.map (Sy.li .str).enc [A,B,C]:=by rw[<-hA];rfl
  rw[hR];rw[w1,w2];refine YB rfl rfl (k:=0) rfl (XW rfl rfl ?_);rw[l1];refine cA (λh=>by omega) λ_=>?_;refine YB rfl rfl (k:=1) rfl (XW rfl rfl ?_);rw[l2];refine cA (λh=>by omega) λ_=>?_;refine YB rfl rfl (k:=2) rfl (XW rfl rfl ?_);rw[l3];refine cA (λh=>by omega) λ_=>?_;refine ⟨by rw[ac,ac];exact ⟨⟨ai (by omega),ai (by omega)⟩,ai (by omega)⟩,?_⟩;refine YB rfl rfl (k:=0) rfl (XW (k:=0) rfl rfl ?_);refine ⟨by rw[ac,ac];exact ⟨⟨yE,ai (by simp;omega)⟩,ai (by simp;omega)⟩,?_⟩;refine YB rfl rfl (k:=1) rfl (XW rfl rfl ?_);refine ⟨by rw[ac,ac];exact ⟨⟨yE,ai (by simp;omega)⟩,ai (by simp;omega)⟩,?_⟩;refine YB rfl rfl (k:=2) rfl (XW rfl rfl ?_);refine ⟨by rw[ac,ac];exact ⟨⟨yE,ai (by simp;omega)⟩,ai (by simp;omega)⟩,?_⟩;have eA:[]++List.map Sy.str.enc A++List.map Sy.str.enc B++List.map Sy.str.enc C=List.map Sy.str.enc (A++B++C):=by rw[List.map_append,List.map_append];rfl
  rw[eA];refine ⟨by rw[ac,ac,ac];exact ⟨⟨⟨yE,rfl⟩,ai (by simp;omega)⟩,ai (by simp;omega)⟩,?_⟩;exact SM (R:=λy=>y=T.sl false (List.map Sy.str.enc (iG (A++B++C)))) (by
   intro e;have:=congrArg List.length e;simp only[List.length_append,hAl,List.length_nil] at this;omega) rfl rfl
 refine cA (λh=>cA (λh'=>by omega) λ_=>⟨rfl,go (e2 (by omega)) (by simp) rfl⟩) λn10=>?_;refine cA (λh=>⟨rfl,go (e11 (by omega)) (by simp) rfl⟩) λn11=>?_;refine cA (λh=>⟨rfl,go (e11 (by omega)) (by simp) rfl⟩) λn12=>?_;have e:bQ x=[]:=by
  unfold bQ;rw[if_neg (by omega),if_neg (by omega),if_neg (by omega),if_neg (by omega),if_neg (by omega),if_neg (by omega),if_neg (by omega)]
 rw[e,AV4];rfl
end Go.Pv
namespace Go.Pv
open Go Go.Proofs Go.Lib IntKind
def AB5 (a b:iII):cK a b=true↔toL a<toL b:=by
 unfold cK toL;rw[bytesLess_eq,decide_eq_true_iff]
def QO:∀ {l m:List (List UInt8)},l.Pairwise (· < ·)->m.Pairwise (· < ·)->(∀ a,a∈l↔a∈m)->l=m
 | [],[],_,_,_=>rfl
 | [],b::m,_,_,h=>absurd ((h b).2 am) (by simp)
 | a::l,[],_,_,h=>absurd ((h a).1 am) (by simp)
 | a::l,b::m,h1,h2,h=>by
  rw[List.pairwise_cons] at h1 h2;have e:a=b:=by
   rcases List.mem_cons.1 ((h a).1 am) with e|e
   ·exact e
   ·rcases List.mem_cons.1 ((h b).2 am) with e'|e'
    ·exact e'.symm
    ·exact absurd (List.lt_trans (h1.1 b e') (h2.1 a e)) (List.lt_irrefl _)
  subst e;refine congrArg (a :: ·) (QO h1.2 h2.2 λx=>⟨λhx=>?_,λhx=>?_⟩)
  ·rcases List.mem_cons.1 ((h x).1 (List.mem_cons_of_mem _ hx)) with e|e
   ·subst e;exact absurd (h1.1 _ hx) (List.lt_irrefl _)
   ·exact e
  ·rcases List.mem_cons.1 ((h x).2 (List.mem_cons_of_mem _ hx)) with e|e
   ·subst e;exact absurd (h2.1 _ hx) (List.lt_irrefl _)
   ·exact e
def L8 (l:List (List UInt8)):(eQ l).Pairwise (· <= ·):=by
 unfold eQ;have h:=List.pairwise_mergeSort (le:=λx y:List UInt8=>decide (x<=y)) (λa b c h1 h2=>ai (List.le_trans (of_decide_eq_true h1) (of_decide_eq_true h2))) (λa b=>by
  rw[Bool.or_eq_true,ah,ah];exact List.le_total a b) l
 exact h.imp λh=>of_decide_eq_true h
def F6 {l:List (List UInt8)} {a:List UInt8}:a∈eQ l↔a∈l:=by unfold eQ;exact List.mem_mergeSort
def QW {l:List (List UInt8)} (h:l.Pairwise (· <= ·)):(Lib.compact l).Pairwise (· < ·):=by
 unfold Lib.compact compactUpTo;rw[List.pairwise_map,List.pairwise_filter];refine List.Pairwise.imp_of_mem ?_ List.pairwise_lt_range;intro i j hi hj hij ki kj;rw[List.mem_range] at hi hj;have get:∀ k (hk:k<l.length),l.toArray[k]! = l[k]:=λk hk=>by simp[hk]
 have le:∀ p q (hp:p<l.length) (hq:q<l.length),p<=q->l[p]<=l[q]:=λp q hp hq hpq=>by
  by_cases e:p=q
  ·subst e;exact List.le_refl _
  ·exact List.pairwise_iff_getElem.1 h p q hp hq (by omega)
 unfold keeps at kj;rw[ah] at kj;have hne:l.toArray[j]! ≠ l.toArray[j-1]! := kj.resolve_left (by omega);rw[get j hj,get (j-1) (by omega)] at hne;rw[get i hi,get j hj];have a1:=le i (j-1) hi (by omega) (by omega);have a2:=le (j-1) j (by omega) hj (by omega);have a3:l[j-1]<l[j]:=Decidable.byContradiction λhn=>hne (List.le_antisymm (List.not_lt.1 hn) a2);exact Decidable.byContradiction λhn=>absurd (List.le_trans (List.not_lt.1 hn) a1) (List.not_le.2 a3)
def MU {l:List (List UInt8)} {a:List UInt8}:a∈Lib.compact l↔a∈l:=by
 have get:∀ k (hk:k<l.length),l.toArray[k]! = l[k]:=λk hk=>by simp[hk]
 have all:∀ n k,k<=n->(hk:k<l.length)->l[k]∈Lib.compact l:=by
  intro n
  induction n with
  | zero =>
   intro k hk hl;have:k=0:=by omega
   subst this;unfold Lib.compact compactUpTo;exact List.mem_map.2 ⟨0,List.mem_filter.2 ⟨List.mem_range.2 hl,keeps_lt_one _ 0 (by omega)⟩,get 0 hl⟩
  | succ n ih =>
   intro k hk hl;by_cases hkk:keeps l.toArray k=true
   ·unfold Lib.compact compactUpTo;exact List.mem_map.2 ⟨k,List.mem_filter.2 ⟨List.mem_range.2 hl,hkk⟩,get k hl⟩
   ·unfold keeps at hkk;rw[ah,not_or] at hkk;have e:l.toArray[k]! = l.toArray[k-1]! := Decidable.byContradiction hkk.2;rw[get k hl,get (k-1) (by omega)] at e;rw[e];exact ih (k-1) (by omega) (by omega)
 constructor
 ·intro h;unfold Lib.compact compactUpTo at h;obtain ⟨k,h1,rfl⟩:=List.mem_map.1 h;have hk:=List.mem_range.1 (List.mem_filter.1 h1).1;rw[get k hk];exact ak hk
 ·intro h;obtain ⟨k,hk,rfl⟩:=List.mem_iff_getElem.1 h;exact all k k (al _) hk
def ATN {l:List (List UInt8)} {a:List UInt8}:a∈GM l↔a∈l/\a≠[]:=by
 unfold GM Z6;rw[List.mem_filter];cases a<;>simp
def XQ (l:List iII):(iG l).map toL=GM (Lib.compact (eQ (l.map toL))):=by
 have e:∀ m:List (List UInt8),(m.map ofL).map toL=m:=λm=>by
  rw[List.map_map];exact (List.map_congr_left λa _=>toL_ofL a).trans (List.map_id _)
 unfold iG lV;rw[e,e,e]
def A63 (l:List iII):((iG l).map toL).Pairwise (· < ·):=by
 rw[XQ];exact (QW (L8 _)).sublist (List.filter_sublist)
def XP (l:List iII) (a:List UInt8):a∈(iG l).map toL↔a∈l.map toL/\a≠[]:=by
 rw[XQ,ATN,MU,F6]
def AGR {l m:List iII} (h:l.map toL=m.map toL):l=m:=map_inj (λx y h=>by rw[<-iX x,<-iX y,h]) h
end Go.Pv
namespace Go.Pv
open Go Go.Proofs IntKind
def ltB (a b:iII):Prop:=toL a<toL b
def BON:A2C ltB:=⟨λa=>List.lt_irrefl _,λh1 h2=>List.lt_trans h1 h2,λ{a b} h1 h2=>by rw[<-iX a,<-iX b,List.le_antisymm (List.not_lt.1 h2) (List.not_lt.1 h1)]⟩
def AKS (l:List iII):List iII:=lV Lib.compact (lV eQ l)
def toL_viaL (q:List (List UInt8)->List (List UInt8)) (l:List iII):(lV q l).map toL=q (l.map toL):=by
 unfold lV;rw[List.map_map];exact (List.map_congr_left λa _=>toL_ofL a).trans (List.map_id _)
def BB7 (l:List iII):(AKS l).Pairwise ltB:=by
 have h:((AKS l).map toL).Pairwise (· < ·):=by
  unfold AKS;rw[toL_viaL,toL_viaL];exact QW (L8 _)
 show (AKS l).Pairwise λa b=>toL a<toL b;exact List.pairwise_map.1 h
def B0 {l:List iII} {s:iII}:toL s∈l.map toL↔s∈l :=
 ⟨λh=>by obtain ⟨b,hb,e⟩:=List.mem_map.1 h;rw[<-iX s,<-e,iX];exact hb,λh=>List.mem_map.2 ⟨s,h,rfl⟩⟩
def A2M {l:List iII} {s:iII}:s∈AKS l↔s∈l:=by
 rw[<-B0];unfold AKS;rw[toL_viaL,toL_viaL,MU,F6,B0]
def AO7 {l m:List iII} (h1:l.Pairwise ltB) (h2:m.Pairwise ltB) (h:∀ s,s∈l↔s∈m):l=m:=by
 have e:l.map toL=m.map toL:=QO (List.pairwise_map.2 h1) (List.pairwise_map.2 h2) λa=>by
  constructor
  ·intro ha;obtain ⟨b,hb,rfl⟩:=List.mem_map.1 ha;exact B0.2 ((h b).1 hb)
  ·intro ha;obtain ⟨b,hb,rfl⟩:=List.mem_map.1 ha;exact B0.2 ((h b).2 hb)
 have:=congrArg (List.map ofL) e;rw[List.map_map,List.map_map] at this;have u:∀ k:List iII,List.map (ofL∘toL) k=k:=λk=>(List.map_congr_left λa _=>iX a).trans (List.map_id _);rwa[u,u] at this
end Go.Pv
namespace Go.Pv
open Go Go.Proofs IntKind
noncomputable def AY8:Env:=Env.of [(22,.pure qJ)]
def A2A:FuncId->Hint:=b8 72 [(6,.inv [.own 5 1 .str,.val 6 false .bool,.val 7 false (.int .i64)])] (λ_=>bA)
def AJM:aU Tryz.prog AY8:=.cons AER (.nil _)
def BT8(a1:iII):List (List T):=[[pPQ a1]]
def BT3(s2:List iII×Bool×Int×PUnit):List (List T):=List.map Sy.str.enc s2.1
def P6(a0:List iII)(a1:iII)(R:T->Prop):Prop:=aC (decide (a1 = {data:=#[]})) (R (T.sl false (BS3 a0))) (aJ BSU (qJ [T.sl false (BS3 a0),pPQ a1]) λ(y0:Bool)=>aC y0 (R (T.sl false (BS3 a0))) (bB (List iII×Bool×Int×PUnit) (λX1 s2=>aC (decide (s2.2.2.1<(↑(BS3 a0).length:Int))) (aC (!s2.2.1) (aR Sy.str (BS3 a0) s2.2.2.1 λ(y3:iII)=>aC (!(cK y3 a1||decide (y3=a1))) (bL (decide (((BT3 s2).length+1)*16<=140737488355328) && decide ((BT3 s2).length+1<=140737488355328)) (aR Sy.str (BS3 a0) s2.2.2.1 λ(y4:iII)=>bL (decide (((List.map Sy.str.enc s2.1 ++ [[pPQ a1].reverse].reverse).length + 1) * 16 <= 140737488355328) && decide ((List.map Sy.str.enc s2.1 ++ [[pPQ a1].reverse].reverse).length + 1 <= 140737488355328)) (dP Sy.str (List.map Sy.str.enc s2.1++(BT8 a1) ++ (BT8 y4)) λ(y5:List iII)=>X1 (y5,true,i64.wrap (s2.2.2.1+1),())))) (aR Sy.str (BS3 a0) s2.2.2.1 λ(y6:iII)=>bL (decide (((BT3 s2).length+1)*16<=140737488355328) && decide ((BT3 s2).length+1<=140737488355328)) (dP Sy.str (List.map Sy.str.enc s2.1++(BT8 y6)) λ(y7:List iII)=>X1 (y7,s2.2.1,i64.wrap (s2.2.2.1+1),())))) (aR Sy.str (BS3 a0) s2.2.2.1 λ(y8:iII)=>bL (decide (((BT3 s2).length+1)*16<=140737488355328) && decide ((BT3 s2).length+1<=140737488355328)) (dP Sy.str (List.map Sy.str.enc s2.1++(BT8 y8)) λ(y9:List iII)=>X1 (y9,s2.2.1,i64.wrap (s2.2.2.1+1),())))) (aC (!s2.2.1) (bL (decide (((BT3 s2).length+1)*16<=140737488355328) && decide ((BT3 s2).length+1<=140737488355328)) (R (T.sl false (List.map Sy.str.enc s2.1++(BT8 a1))))) (R (T.sl false (BT3 s2))))) ([],false,0,())))
abbrev TZ:Sh:=[(false,Sy.str.li),(false,Sy.str)]
def gtB (y s:iII):Bool:=!(cK y s||decide (y=s))
def CW:List iII->iII->List iII
 | [],s=>[s]
 | a::l,s=>match gtB a s with
  | true=>s::a::l
  | false=>a::CW l s
def nE (l:List iII) (s:iII):List iII:=if s=⟨#[]⟩ then l else if U6 l s=true then l else CW l s
def vU (x:List iII×iII):Option T:=match decide (x.1.length<=10000000) with
 | true=>some (T.sl false (List.map Sy.str.enc (nE x.1 x.2)))
 | false=>none
noncomputable def dK:List T->Option T:=gS TZ vU
def AF6 {a0 a1}:dK [T.sl false (List.map Sy.str.enc a0),pPQ a1]=vU (a0,a1):=bH (s:=TZ) rfl (a0,a1) rfl
def AW0:qU Tryz.prog 72 dK vU (cG TZ) P6:=gV (a1:=(false,Sy.str.li)) (a2:=(false,Sy.str)) (sp:=vU) (F:=P6) (Hs:=A2A) (f:=72) (k:=8) AJM aY a6 (aO rfl) ⟨_,_,Tryz.func72,rfl⟩ rfl λ_ _ _=>by kernel_rfl
def AGF:∀ (l:List iII) (s:iII),(CW l s).length=l.length+1
 | [],_=>rfl
 | a::l,s=>by
  unfold CW;split
  ·rfl
  ·rw[List.length_cons,AGF l s];rfl
def AAW {a s:iII} {l:List iII} (h:gtB a s=true):CW (a::l) s=s::a::l:=by rw[CW,h]
def AAX {a s:iII} {l:List iII} (h:gtB a s=false):CW (a::l) s=a::CW l s:=by rw[CW,h]
variable {K:List iII->Prop}
def AK9 {l:List iII} {rows:List (List T)} (e:rows=List.map Sy.str.enc l) (h:K l):dP .str rows K:=by subst e;rw[dJ (r:=.str) rfl];exact h
def AUT:aP Tryz.prog 72 dK:=AW0 λl a r h hb=>by
 clear hb;obtain ⟨hl,rfl⟩:=tD h;clear h;have hl:l.length<=10000000:=of_decide_eq_true hl;have is:∀ {m:List iII},nE l a=m->T.sl false (List.map Sy.str.enc m)=T.sl false (List.map Sy.str.enc (nE l a)):=λe=>by rw[e]
 unfold P6 BT3 BT8 BS3 BSU;refine cA (λh=>is (by unfold nE;rw[if_pos h])) λh1=>?_;refine aF (s:=jJ) (y:=U6 l a) (R5 ..) ?_;refine sX (λh=>is (by unfold nE;rw[if_neg h1,if_pos h])) λh2=>?_;have hw:nE l a=CW l a:=by unfold nE;rw[if_neg h1,if_neg (by rw[h2];exact Bool.false_ne_true)]
 refine bM l.length (λk s=>s.2.2.1=(k:Int)/\((s.2.1=false/\s.1.length=k/\s.1++CW (l.drop k) a=CW l a)\/(s.2.1=true/\s.1.length=k+1/\s.1++l.drop k=CW l a))) ⟨rfl,.inl ⟨rfl,rfl,rfl⟩⟩ ?_;rintro X k ⟨o,dn,i,u⟩ hk ⟨rfl,hs⟩ hX;dsimp only at hs ⊢;have wk:k<l.length->i64.wrap ((k:Int)+1)=((k+1:Nat):Int):=λh=>by rw[bG]<;>omega
 rw[ae];refine cA (λhlt=>?_) λhge=>?_
 ·have hlt:k<l.length:=by omega
  have ho:o.length<=k+1:=by rcases hs with ⟨_,h,_⟩|⟨_,h,_⟩<;>omega
  have hd:l.drop k=l[k]::l.drop (k+1):=List.drop_eq_getElem_cons hlt;have sz:∀ m:List iII,m.length<=k+2->(decide (((List.map Sy.str.enc m).length+1)*16<=140737488355328)&&decide ((List.map Sy.str.enc m).length+1<=140737488355328))=true:=λm hm=>by
   rw[ac,ae];exact ⟨ai (by omega),ai (by omega)⟩
  rw[bE (r:=.str) hlt];refine fJ (λhdn=>?_) λhdn=>?_
  ·rcases hs with ⟨_,h3,h4⟩|⟨h,_⟩
   case inr=>rw[hdn] at h;cases h
   rw[hd] at h4;refine sX (λhg=>?_) λhg=>?_
   ·refine ⟨sz o (by omega),?_⟩;have e:List.map Sy.str.enc o++[[pPQ a]]=List.map Sy.str.enc (o++[a]):=by rw[List.map_append];rfl
    rw[bE (r:=.str) hlt];refine ⟨?_,?_⟩
    ·show (decide (((List.map Sy.str.enc o++[[pPQ a]]).length+1)*16<=140737488355328)&&decide ((List.map Sy.str.enc o++[[pPQ a]]).length+1<=140737488355328))=true;rw[e];exact sz _ (by rw[List.length_append,h3];show k+1<=k+2;omega)
    ·refine AK9 (l:=o++[a]++[l[k]]) (by rw[List.map_append,List.map_append];rfl) (hX _ hlt ⟨wk hlt,.inr ⟨rfl,?_,?_⟩⟩)
     ·simp[h3]
     ·have hg:gtB l[k] a=true:=hg;rw[AAW hg] at h4;rw[<-h4];simp
   ·rw[bE (r:=.str) hlt];refine ⟨sz o (by omega),AK9 (l:=o++[l[k]]) (by rw[List.map_append];rfl) (hX _ hlt ⟨wk hlt,.inl ⟨hdn,?_,?_⟩⟩)⟩
    ·simp[h3]
    ·have hg:gtB l[k] a=false:=hg;rw[AAX hg] at h4;rw[<-h4];simp
  ·rcases hs with ⟨h,_⟩|⟨_,h3,h4⟩
   ·rw[hdn] at h;cases h
   rw[bE (r:=.str) hlt];refine ⟨sz o (by omega),AK9 (l:=o++[l[k]]) (by rw[List.map_append];rfl) (hX _ hlt ⟨wk hlt,.inr ⟨hdn,?_,?_⟩⟩)⟩
   ·simp[h3]
   ·rw[hd] at h4;rw[<-h4];simp
 ·have hkl:k=l.length:=by omega
  subst hkl;rw[List.drop_length] at hs;refine fJ (λhdn=>?_) λhdn=>?_
  ·rcases hs with ⟨_,h3,h4⟩|⟨h,_⟩
   case inr=>rw[hdn] at h;cases h
   refine ⟨?_,?_⟩
   ·rw[ac,ae];exact ⟨ai (by omega),ai (by omega)⟩
   ·have e:List.map Sy.str.enc o++[[pPQ a]]=List.map Sy.str.enc (o++[a]):=by rw[List.map_append];rfl
    rw[e];exact is (by rw[hw,<-h4];rfl)
  ·rcases hs with ⟨h,_⟩|⟨_,h3,h4⟩
   ·rw[hdn] at h;cases h
   exact is (by rw[hw,<-h4,List.append_nil])
end Go.Pv
namespace Go.Pv
open Go Go.Proofs IntKind
noncomputable def ACZ:Env:=Env.of [(72,.pure dK)]
def ADS:FuncId->Hint:=b8 49 [(24,.inv [.val 4 false (.li .str),.val 5 false (.int .i64)])] (λ_=>bA)
def UQ:aU Tryz.prog ACZ:=.cons AUT (.nil _)
def BST:Sh:=[(false,Sy.str.li)]
def BTE(s1:List iII×Int×PUnit):List (List T):=List.map Sy.str.enc s1.1
def BT1(y75:List iII)(X72:List iII×Int×PUnit->Prop)(s73:List iII×Int×PUnit):Prop:=dP Sy.str (BS3 y75) λ(y76:List iII)=>X72 (y76,i64.wrap (s73.2.1+1),())
def BS7(s1:List iII×Int×PUnit)(y2:iII)(X0:List iII×Int×PUnit->Prop):Prop:=aJ BST (dK [T.sl false (BTE s1),pPQ y2]) λ(y3:List iII)=>BT1 y3 X0 s1
def BTY(R:T->Prop)(s1:List iII×Int×PUnit):Prop:=R (T.sl false (BTE s1))
def BTG(a0:aV)(R:T->Prop):Prop:=bB (List iII×Int×PUnit) (λX62 s63=>aC (decide (s63.2.1<(↑1:Int))) (aR Sy.str [(BUG a0)] s63.2.1 λ(y64:iII)=>aJ BST (dK [T.sl false (BTE s63), pPQ y64]) λ(y65:List iII)=>BT1 y65 X62 s63) (BTY R s63)) ([],0,())
def BTJ(a0:aV)(R:T->Prop):Prop:=bB (List iII×Int×PUnit) (λX42 s43=>aC (decide (s43.2.1<(↑2:Int))) (aR Sy.str [[pPQ a0.2.2.2.2.2.2.2.2.1], [pPQ a0.2.2.2.2.2.2.2.2.2]] s43.2.1 λ(y44:iII)=>BS7 s43 y44 X42) (BTY R s43)) ([],0,())
def BTL(a0:aV)(R:T->Prop):Prop:=bB (List iII×Int×PUnit) (λX5 s6=>aC (decide (s6.2.1<(↑2:Int))) (aR Sy.str [[pPQ a0.2.2.2.2.1.1], [pPQ a0.2.2.2.2.1.2.2.2.1]] s6.2.1 λ(y7:iII)=>BS7 s6 y7 X5) (BTY R s6)) ([],0,())
def BTO(a0:aV)(R:T->Prop):Prop:=bB (List iII×Int×PUnit) (λX52 s53=>aC (decide (s53.2.1<(↑1:Int))) (aR Sy.str [(BUG a0)] s53.2.1 λ(y54:iII)=>BS7 s53 y54 X52) (BTY R s53)) ([],0,())
def yB(a0:aV)(R:T->Prop):Prop:=aC (decide (a0.1=1)) (bB (List iII×Int×PUnit) (λX0 s1=>aC (decide (s1.2.1<(↑2:Int))) (aR Sy.str [[pPQ a0.2.2.2.1.1], [pPQ a0.2.2.2.1.2.2]] s1.2.1 λ(y2:iII)=>BS7 s1 y2 X0) (BTY R s1)) ([],0,())) (aC (decide (a0.1=3)) (BTL a0 R) (aC (decide (a0.1=5)) (BTL a0 R) (aC (decide (a0.1=6)) (bB (List iII×Int×PUnit) (λ(X15:List iII×Int×PUnit->Prop) (F0:List iII×Int×PUnit)=>aC (decide (F0.2.1<(↑2:Int))) (aR Sy.str [(BUG a0),[pPQ a0.2.2.1]] F0.2.1 λ(y17:iII)=>BS7 F0 y17 X15) (BTY R F0)) ([],0,())) (aC (decide (a0.1=7)) (bB (List iII×Int×PUnit) (λX20 s21=>aC (decide (s21.2.1<(↑3:Int))) (aR Sy.str [[pPQ a0.2.2.2.2.2.1.1], [pPQ a0.2.2.2.2.2.1.2.1], [pPQ a0.2.2.2.2.2.1.2.2.1]] s21.2.1 λ(y22:iII)=>BS7 s21 y22 X20) (BTY R s21)) ([],0,())) (aC (decide (a0.1=9)) (aC (BTH a0).isEmpty (aC (BTF a0).isEmpty (bB (List iII×Int×PUnit) (λX25 s26=>aC (decide (s26.2.1<(↑2:Int))) (aR Sy.str [(BTP a0), (BTN a0)] s26.2.1 λ(y27:iII)=>BS7 s26 y27 X25) (BTY R s26)) ([],0,())) (bL (eE 1 (BTF a0) && decide ((2+(BTF a0).length)*16 <= 140737488355328) && decide (2+(BTF a0).length <= 140737488355328)) (bB (List iII×Int×PUnit) (λX30 s31=>aC (decide (s31.2.1 < (↑(Z1 [(BTP a0).reverse, (BTN a0).reverse] (BTF a0)).length : Int))) (aR Sy.str ((BTP a0) :: (BTN a0) :: (BTF a0)) s31.2.1 λ(y32:iII)=>eR Sy.str ((BTP a0) :: (BTN a0) :: (BTF a0)) (Int.toNat s31.2.1) 0 λ(y33:iII)=>BS7 s31 y33 X30) (BTY R s31)) ([],0,())))) (bL (eE 1 (BTH a0) && decide ((2+(BTH a0).length)*16 <= 140737488355328) && decide (2+(BTH a0).length <= 140737488355328)) (bL (eE 1 (BTF a0) && decide (((Z1 [(BTP a0).reverse, (BTN a0).reverse] (BTH a0)).length + (BTF a0).length) * 16 <= 140737488355328) && decide ((Z1 [(BTP a0).reverse, (BTN a0).reverse] (BTH a0)).length + (BTF a0).length <= 140737488355328)) (bB (List iII×Int×PUnit) (λX36 s37=>aC (decide (s37.2.1 < (↑(Z1 [(BTP a0).reverse, (BTN a0).reverse] (BTH a0) ++ List.map Sy.str.enc a0.2.2.2.2.2.2.1.2.2.2.2).length : Int))) (aR Sy.str ((BTP a0) :: (BTN a0) :: ((([]++(BTH a0)))++(BTF a0))) s37.2.1 λ(y38:iII)=>eR Sy.str ((BTP a0) :: (BTN a0) :: ((([]++(BTH a0)))++(BTF a0))) (Int.toNat s37.2.1) 0 λ(y39:iII)=>BS7 s37 y39 X36) (BTY R s37)) ([],0,()))))) (aC (decide (a0.1=11)) (BTJ a0 R) (aC (decide (a0.1=12)) (BTJ a0 R) (aC (decide (a0.1=2)) (BTO a0 R) (aC (decide (a0.1=4)) (BTO a0 R) (aC (decide (a0.1=8)) (BTG a0 R) (aC (decide (a0.1=10)) (BTG a0 R) (bB (List iII×Int×PUnit) (λX72 s73=>aC (decide (s73.2.1<(↑0:Int))) (aR Sy.str [] s73.2.1 λ(y74:iII)=>aJ BST (dK [T.sl false (BTE s73), pPQ y74]) λ(y75:List iII)=>BT1 y75 X72 s73) (BTY R s73)) ([],0,())))))))))))))
abbrev AY:Sh:=[(true,aM)]
def D2 (l:List iII):List iII:=l.foldl nE []
def AXU (l:List iII) (s:iII):(nE l s).length<=l.length+1:=by
 unfold nE;split
 ·omega
 split
 ·omega
 ·rw[AGF];exact al _
variable {L:List iII}{R:T->Prop}
def UH {rows:List (List T)} {n:Int} (hr:rows=List.map Sy.str.enc L) (hn:n=(L.length:Int)) (hl:L.length<=5000000) {Body:(List iII×Int×PUnit->Prop)->List iII×Int×PUnit->iII->Prop}
  (hB:∀ (X:List iII×Int×PUnit->Prop) (s:List iII×Int×PUnit) (k:Nat) (h:k<L.length),s.2.1=(k:Int)->aJ [(false,Sy.str.li)] (dK [T.sl false (List.map Sy.str.enc s.1),pPQ (L[k])]) (λy=>dP Sy.str (List.map Sy.str.enc y) λy4=>X (y4,i64.wrap (s.2.1+1),()))->Body X s L[k])
  (h:R (T.sl false (List.map Sy.str.enc (D2 L)))) :
  bB (List iII×Int×PUnit) (λX s=>aC (decide (s.2.1<n)) (aR Sy.str rows s.2.1 λy=>Body X s y) (R (T.sl false (List.map Sy.str.enc s.1)))) ([],0,()):=by
 subst hr;subst hn;refine bM L.length (λk s=>s.2.1=(k:Int)/\s.1=D2 (L.take k)/\s.1.length<=k) ⟨rfl,rfl,al _⟩ ?_;rintro X k ⟨o,i,u⟩ hk ⟨hi,ho,hol⟩ hX;dsimp only at hi ho hol ⊢;subst hi;refine cA (λhlt=>?_) λhge=>?_
 ·have hlt:k<L.length:=by omega
  rw[bE (r:=.str) hlt];refine hB X _ k hlt rfl ?_;refine aF (s:=[(false,Sy.str.li)]) (y:=nE o L[k]) ((AF6 ..).trans ?_) ?_
  ·unfold vU;dsimp only;rw[ai (by omega:o.length<=10000000)];rfl
  ·rw[dJ (r:=.str) rfl];have hw:=AXU o L[k];refine hX _ hlt ⟨?_,?_,?_⟩
   ·show i64.wrap ((k:Int)+1)=_;rw[bG]<;>omega
   ·show nE o L[k]=D2 (L.take (k+1));rw[ho,List.take_add_one,List.getElem?_eq_getElem hlt];unfold D2;rw[List.foldl_append];rfl
   ·show (nE o L[k]).length<=k+1;omega
 ·have hkl:k=L.length:=by omega
  subst hkl;rw[List.take_length] at ho;rw[ho];exact h
def BLB {rows:List (List T)} {k:Nat} {K:iII->Prop} (hr:rows=List.map Sy.str.enc L) (h:k<L.length) (hk:K L[k]):eR Sy.str rows k 0 K:=by
 subst hr;rw[jD (r:=.str) h];exact hk
def eM {rows:List (List T)} {n:Int} (hr:rows=List.map Sy.str.enc L) (hn:n=(L.length:Int)) (hl:L.length<=5000000) :
  bB (List iII×Int×PUnit) (λX s=>aC (decide (s.2.1<n)) (aR Sy.str rows s.2.1 λy=>aJ [(false,Sy.str.li)] (dK [T.sl false (List.map Sy.str.enc s.1),pPQ y]) λy=>dP Sy.str (List.map Sy.str.enc y) λy4=>X (y4,i64.wrap (s.2.1+1),())) (T.sl false (List.map Sy.str.enc s.1)=T.sl false (List.map Sy.str.enc (D2 L)))) ([],0,()) :=
 UH (R:=λy=>y=T.sl false (List.map Sy.str.enc (D2 L))) (Body:=λX s y=>aJ [(false,Sy.str.li)] (dK [T.sl false (List.map Sy.str.enc s.1),pPQ y]) λy=>dP Sy.str (List.map Sy.str.enc y) λy4=>X (y4,i64.wrap (s.2.1+1),())) hr hn hl (λX s k h e hc=>hc) rfl
def NQ {rows:List (List T)} {n:Int} (hr:rows=List.map Sy.str.enc L) (hn:n=(L.length:Int)) (hl:L.length<=5000000) :
  bB (List iII×Int×PUnit) (λX s=>aC (decide (s.2.1<n)) (aR Sy.str rows s.2.1 λ_=>eR Sy.str rows (Int.toNat s.2.1) 0 λy=>aJ [(false,Sy.str.li)] (dK [T.sl false (List.map Sy.str.enc s.1),pPQ y]) λy=>dP Sy.str (List.map Sy.str.enc y) λy4=>X (y4,i64.wrap (s.2.1+1),())) (T.sl false (List.map Sy.str.enc s.1)=T.sl false (List.map Sy.str.enc (D2 L)))) ([],0,()) :=
 UH (R:=λy=>y=T.sl false (List.map Sy.str.enc (D2 L))) (Body:=λX s _=>eR Sy.str rows (Int.toNat s.2.1) 0 λy=>aJ [(false,Sy.str.li)] (dK [T.sl false (List.map Sy.str.enc s.1),pPQ y]) λy=>dP Sy.str (List.map Sy.str.enc y) λy4=>X (y4,i64.wrap (s.2.1+1),())) hr hn hl (λX s k h e hc=>by
  have:Int.toNat s.2.1=k:=by omega
  show eR Sy.str rows (Int.toNat s.2.1) 0 _;rw[this];exact BLB hr h hc) rfl
def oA (x:aV):Option T:=match SX x with
 | true=>some (T.sl false (List.map Sy.str.enc (D2 (bQ x))))
 | false=>none
noncomputable def mX:List T->Option T:=gS AY oA
def SA {a0}:mX [aG true aM a0]=oA (a0):=bH (s:=AY) rfl (a0) rfl
def ABA:xX Tryz.prog 49 mX oA (cG AY) yB:=kC (a1:=(true,aM)) (sp:=oA) (F:=yB) (Hs:=ADS) (f:=49) (k:=8) UQ aY a6 (aO rfl) ⟨_,_,Tryz.func49,rfl⟩ rfl λ_ _=>by kernel_rfl
def AAD:aP Tryz.prog 49 mX:=ABA λx r h hb=>by
 clear hb;obtain ⟨hp,rfl⟩:=tD h;clear h;unfold SX at hp;rw[ac,ah,ah] at hp;obtain ⟨hp1,hp2⟩:=hp;unfold yB BTO BTL BTJ BTG BTY BS7 BT1 BTE BUG BTP BTN BTH BTF BS3 BST;have e1:x.1=1->bQ x=[x.2.2.2.1.1,x.2.2.2.1.2.2]:=λh=>by simp only[bQ,h,if_true]
 have e2:x.1=2\/x.1=4\/x.1=8\/x.1=10->bQ x=[x.2.1]:=λh=>by
  unfold bQ;rw[if_neg (by omega),if_pos h]
 have e3:x.1=3\/x.1=5->bQ x=[x.2.2.2.2.1.1,x.2.2.2.2.1.2.2.2.1]:=λh=>by
  unfold bQ;rw[if_neg (by omega),if_neg (by omega),if_pos h]
 have e6:x.1=6->bQ x=[x.2.1,x.2.2.1]:=λh=>by
  unfold bQ;rw[if_neg (by omega),if_neg (by omega),if_neg (by omega),if_pos h]
 have e7:x.1=7->bQ x=[x.2.2.2.2.2.1.1,x.2.2.2.2.2.1.2.1,x.2.2.2.2.2.1.2.2.1]:=λh=>by
  unfold bQ;rw[if_neg (by omega),if_neg (by omega),if_neg (by omega),if_neg (by omega),if_pos h]
 have e9:x.1=9->bQ x=([x.2.2.2.2.2.2.1.1,x.2.2.2.2.2.2.1.2.1]++x.2.2.2.2.2.2.1.2.2.1)++x.2.2.2.2.2.2.1.2.2.2.2:=λh=>by
  unfold bQ;rw[if_neg (by omega),if_neg (by omega),if_neg (by omega),if_neg (by omega),if_neg (by omega),if_pos h]
 have e11:x.1=11\/x.1=12->bQ x=[x.2.2.2.2.2.2.2.2.1,x.2.2.2.2.2.2.2.2.2]:=λh=>by
  unfold bQ;rw[if_neg (by omega),if_neg (by omega),if_neg (by omega),if_neg (by omega),if_neg (by omega),if_neg (by omega),if_pos h]
 refine cA (λh=>by rw[e1 h];exact eM (L:=[x.2.2.2.1.1,x.2.2.2.1.2.2]) rfl rfl (by simp)) λn1=>?_;refine cA (λh=>by rw[e3 (by omega)];exact eM (L:=[x.2.2.2.2.1.1,x.2.2.2.2.1.2.2.2.1]) rfl rfl (by simp)) λn3=>?_;refine cA (λh=>by rw[e3 (by omega)];exact eM (L:=[x.2.2.2.2.1.1,x.2.2.2.2.1.2.2.2.1]) rfl rfl (by simp)) λn5=>?_;refine cA (λh=>by rw[e6 h];exact eM (L:=[x.2.1,x.2.2.1]) rfl rfl (by simp)) λn6=>?_;refine cA (λh=>by rw[e7 h];exact eM (L:=[x.2.2.2.2.2.1.1,x.2.2.2.2.2.1.2.1,x.2.2.2.2.2.1.2.2.1]) rfl rfl (by simp)) λn7=>?_;refine cA (λh=>?_) λn9=>?_
 ·rw[e9 h];refine sX (λhB=>?_) λhB=>?_
  ·have eB:x.2.2.2.2.2.2.1.2.2.1=[]:=by simpa using hB
   refine sX (λhC=>?_) λhC=>?_
   ·have eC:x.2.2.2.2.2.2.1.2.2.2.2=[]:=by simpa using hC
    rw[eB,eC];exact eM (L:=[x.2.2.2.2.2.2.1.1,x.2.2.2.2.2.2.1.2.1]) rfl rfl (by simp)
   ·rw[eB];refine ⟨?_,?_⟩
    ·rw[ac,ac];exact ⟨⟨yE,ai (by simp;omega)⟩,ai (by simp;omega)⟩
    ·exact NQ (L:=([x.2.2.2.2.2.2.1.1,x.2.2.2.2.2.2.1.2.1]++[])++x.2.2.2.2.2.2.1.2.2.2.2) rfl (by simp[Z1];try omega) (by simp;omega)
  ·refine ⟨?_,?_,?_⟩
   ·rw[ac,ac];exact ⟨⟨yE,ai (by simp;omega)⟩,ai (by simp;omega)⟩
   ·rw[ac,ac];exact ⟨⟨yE,ai (by simp[Z1];omega)⟩,ai (by simp[Z1];omega)⟩
   ·have er:∀ {a b:List T} {B C:List iII} {p q:iII},a=[pPQ p]->b=[pPQ q]->a::b::(([]++List.map Sy.str.enc B)++List.map Sy.str.enc C)=List.map Sy.str.enc (([p,q]++B)++C):=λh1 h2=>by
     subst h1 h2;rw[List.map_append,List.map_append];rfl
    exact NQ (L:=([x.2.2.2.2.2.2.1.1,x.2.2.2.2.2.2.1.2.1]++x.2.2.2.2.2.2.1.2.2.1)++x.2.2.2.2.2.2.1.2.2.2.2) (er rfl rfl) (by simp[Z1];try omega) (by simp;omega)
 refine cA (λh=>by rw[e11 (by omega)];exact eM (L:=[x.2.2.2.2.2.2.2.2.1,x.2.2.2.2.2.2.2.2.2]) rfl rfl (by simp)) λn11=>?_;refine cA (λh=>by rw[e11 (by omega)];exact eM (L:=[x.2.2.2.2.2.2.2.2.1,x.2.2.2.2.2.2.2.2.2]) rfl rfl (by simp)) λn12=>?_;refine cA (λh=>by rw[e2 (by omega)];exact eM (L:=[x.2.1]) rfl rfl (by simp)) λn2=>?_;refine cA (λh=>by rw[e2 (by omega)];exact eM (L:=[x.2.1]) rfl rfl (by simp)) λn4=>?_;refine cA (λh=>by rw[e2 (by omega)];exact eM (L:=[x.2.1]) rfl rfl (by simp)) λn8=>?_;refine cA (λh=>by rw[e2 (by omega)];exact eM (L:=[x.2.1]) rfl rfl (by simp)) λn10=>?_;have e:bQ x=[]:=by
  unfold bQ;rw[if_neg (by omega),if_neg (by omega),if_neg (by omega),if_neg (by omega),if_neg (by omega),if_neg (by omega),if_neg (by omega)]
 rw[e];exact eM (L:=[]) rfl rfl (by simp)
def SE:∀ {l:List iII} {s a:iII},a∈CW l s↔a∈l\/a=s
 | [],s,a=>by simp[CW]
 | b::l,s,a=>by
  cases h:gtB b s with
  | true=>rw[AAW h];simp only[List.mem_cons];constructor<;>rintro (h|h|h)<;>simp[h]
  | false =>
   rw[AAX h];simp only[List.mem_cons,SE];constructor
   ·rintro (h|h|h)<;>simp[h]
   ·rintro ((h|h)|h)<;>simp[h]
def A5V {a b:iII} (h:gtB a b=true):toL b<toL a:=by
 unfold gtB at h;rw[Bool.not_eq_true',Bool.or_eq_false_iff,decide_eq_false_iff_not] at h;have h1:¬ toL a<toL b:=λh'=>by rw[(AB5 a b).2 h'] at h;cases h.1
 refine Decidable.byContradiction λhn=>h.2 ?_;have:=List.le_antisymm (List.not_lt.1 h1) (List.not_lt.1 hn);rw[<-iX a,<-iX b,this]
def BJH {a b:iII} (h:gtB a b=false) (hne:a≠b):toL a<toL b:=by
 unfold gtB at h;rw[Bool.not_eq_false',Bool.or_eq_true,ah] at h;exact (AB5 a b).1 (h.resolve_right hne)
def ARW (l:List iII):Prop:=l.Pairwise λa b=>toL a<toL b
def AGE:∀ {l:List iII} {s:iII},ARW l->s∉l->ARW (CW l s)
 | [],s,_,_=>List.pairwise_singleton _ _
 | b::l,s,h,hn=>by
  have hb:=List.pairwise_cons.1 h;have hn':s≠b/\s∉l:=by simpa using hn
  cases hg:gtB b s with
  | true =>
   rw[AAW hg];refine List.pairwise_cons.2 ⟨λa ha=>?_,h⟩;rcases List.mem_cons.1 ha with e|e
   ·subst e;exact A5V hg
   ·exact List.lt_trans (A5V hg) (hb.1 a e)
  | false =>
   rw[AAX hg];refine List.pairwise_cons.2 ⟨λa ha=>?_,AGE hb.2 hn'.2⟩;rcases SE.1 ha with e|e
   ·exact hb.1 a e
   ·subst e;exact BJH hg (λe=>hn'.1 e.symm)
def HF {l:List iII} {a:iII}:U6 l a=true↔a∈l:=by
 unfold U6;simp
def AXT {l:List iII} {s:iII} (h:ARW l):ARW (nE l s):=by
 unfold nE;split
 ·exact h
 split
 ·exact h
 ·rename_i h1 h2;exact AGE h λhm=>h2 (HF.2 hm)
def AXV {l:List iII} {s a:iII}:a∈nE l s↔a∈l\/(a=s/\s≠⟨#[]⟩):=by
 unfold nE;split
 ·rename_i h;simp[h]
 split
 ·rename_i h1 h2;have:=HF.1 h2;constructor
  ·exact .inl
  ·rintro (h|⟨h,_⟩)
   ·exact h
   ·rw[h];exact this
 ·rename_i h1 h2;rw[SE];simp[h1]
def RR:∀ (m l:List iII),ARW l->ARW (m.foldl nE l)/\∀ a,a∈m.foldl nE l↔a∈l\/(a∈m/\a≠⟨#[]⟩)
 | [],l,h=>⟨h,λa=>by simp⟩
 | s::m,l,h=>by
  obtain ⟨h1,h2⟩:=RR m (nE l s) (AXT h);refine ⟨h1,λa=>?_⟩;rw[List.foldl_cons,h2,AXV,List.mem_cons];constructor
  ·rintro ((h|⟨h,h'⟩)|⟨h,h'⟩)
   ·exact .inl h
   ·exact .inr ⟨.inl h,by rw[h];exact h'⟩
   ·exact .inr ⟨.inr h,h'⟩
  ·rintro (h|⟨h|h,h'⟩)
   ·exact .inl (.inl h)
   ·exact .inl (.inr ⟨h,by rw[<-h];exact h'⟩)
   ·exact .inr ⟨h,h'⟩
def AOY (l:List iII):D2 l=iG l:=by
 obtain ⟨h1,h2⟩:=RR l [] List.Pairwise.nil;refine AGR (QO (List.pairwise_map.2 h1) (A63 l) λa=>?_);rw[XP];constructor
 ·intro h;obtain ⟨b,hb,rfl⟩:=List.mem_map.1 h;rcases (h2 b).1 hb with h|⟨h,h'⟩
  ·cases h
  ·exact ⟨List.mem_map.2 ⟨b,h,rfl⟩,λe=>h' (by rw[<-iX b,e];rfl)⟩
 ·rintro ⟨h,hne⟩;obtain ⟨b,hb,rfl⟩:=List.mem_map.1 h;exact List.mem_map.2 ⟨b,(h2 b).2 (.inr ⟨hb,λe=>hne (by rw[e];rfl)⟩),rfl⟩
end Go.Pv
namespace Go.Pv
open Go Go.Proofs IntKind
def A9H {a b:iII}:cK a b=true↔ltB a b:=AB5 a b
def BFG {l:List iII} (h:l.Nodup):(lV eQ l).Pairwise ltB:=by
 have h1:((lV eQ l).map toL).Pairwise (· <= ·):=by rw[toL_viaL];exact L8 _
 have h2:((lV eQ l).map toL).Nodup:=by
  rw[toL_viaL];unfold eQ;have hn:(l.map toL).Nodup:=by
   unfold List.Nodup;rw[List.pairwise_map];exact h.imp λ{a b} hne e=>hne (by rw[<-iX a,e,iX])
  exact (List.mergeSort_perm _ _).nodup_iff.2 hn
 have h3:((lV eQ l).map toL).Pairwise (· < ·):=(h1.and h2).imp λ{a b} h=>Classical.byContradiction λhn=>h.2 (List.le_antisymm h.1 (List.not_lt.1 hn));show (lV eQ l).Pairwise λa b=>toL a<toL b;exact List.pairwise_map.1 h3
def A9J {l:List iII} {s:iII}:s∈lV eQ l↔s∈l:=by
 rw[<-B0,toL_viaL,F6,B0]
def r7 (l:List aV):List iII:=AKS (l.flatMap λe=>iG (bQ e))
def AQ9 (l:List aV):(r7 l).Pairwise ltB:=BB7 _
def JH {l:List aV} {s:iII}:s∈r7 l↔∃ e∈l,s∈iG (bQ e):=by
 unfold r7;rw[A2M,List.mem_flatMap]
def AK5 (a b:List aV):List iII:=(r7 a).filter λs=>U6 (r7 b) s
def BCI (a b:List aV):(AK5 a b).Pairwise ltB:=(AQ9 a).filter _
def AEC {a b:List aV} {s:iII}:s∈AK5 a b↔s∈r7 a/\s∈r7 b:=by
 unfold AK5;rw[List.mem_filter,HF]
def A24 {a b:List aV} {ks:List iII} (hn:ks.Nodup) (hm:∀ s,s∈ks↔s∈r7 a/\s∈r7 b):lV eQ ks=AK5 a b :=
 AO7 (BFG hn) (BCI a b) λs=>by rw[A9J,hm,AEC]
def dH:List iII->iII->List iII
 | [],s=>[s]
 | a::l,s=>if cK a s=true then a::dH l s else if a=s then a::l else s::a::l
def UL:∀ (l:List iII) (s:iII),(dH l s).length<=l.length+1
 | [],_=>by simp[dH]
 | a::l,s=>by
  unfold dH;split
  ·have:=UL l s;simp;omega
  split
  ·simp
  ·simp
def GA:∀ {l:List iII} {s x:iII},x∈dH l s↔x∈l\/x=s
 | [],s,x=>by simp[dH]
 | a::l,s,x=>by
  unfold dH;split
  ·rw[List.mem_cons,GA,List.mem_cons,or_assoc]
  split
  ·rename_i _ h;rw[List.mem_cons];constructor
   ·exact .inl
   ·rintro (h'|h')
    ·exact h'
    ·exact .inl (h'.trans h.symm)
  ·rw[List.mem_cons,Or.comm]
def UK:∀ {l:List iII} {s:iII},l.Pairwise ltB->(dH l s).Pairwise ltB
 | [],s,_=>List.pairwise_singleton _ _
 | a::l,s,h=>by
  have ha:=List.pairwise_cons.1 h;unfold dH;split
  ·rename_i h1;refine List.pairwise_cons.2 ⟨λx hx=>?_,UK ha.2⟩;rcases GA.1 hx with h2|h2
   ·exact ha.1 x h2
   ·rw[h2];exact A9H.1 h1
  split
  ·exact h
  ·rename_i h1 h2;have hlt:ltB s a:=Classical.byContradiction λhn=>h2 (BON.tot (λh'=>h1 (A9H.2 h')) hn);refine List.pairwise_cons.2 ⟨λx hx=>?_,h⟩;rcases List.mem_cons.1 hx with rfl|hx
   ·exact hlt
   ·exact BON.tr hlt (ha.1 x hx)
def NS:∀ (m l:List iII),l.Pairwise ltB->(m.foldl dH l).Pairwise ltB/\∀ x,x∈m.foldl dH l↔x∈l\/x∈m
 | [],l,h=>⟨h,λx=>by simp⟩
 | s::m,l,h=>by
  obtain ⟨h1,h2⟩:=NS m (dH l s) (UK h);refine ⟨h1,λx=>?_⟩;rw[List.foldl_cons,h2,GA,List.mem_cons,or_assoc]
def xO (o:List iII) (l:List aV):List iII:=l.foldl (λo e=>(iG (bQ e)).foldl dH o) o
def RQ:∀ (l:List aV) (o:List iII),o.Pairwise ltB->(xO o l).Pairwise ltB/\∀ x,x∈xO o l↔x∈o\/∃ e∈l,x∈iG (bQ e)
 | [],o,h=>⟨h,λx=>by simp[xO]⟩
 | e::l,o,h=>by
  obtain ⟨g1,g2⟩:=NS (iG (bQ e)) o h;obtain ⟨h1,h2⟩:=RQ l ((iG (bQ e)).foldl dH o) g1;refine ⟨h1,λx=>?_⟩;show x∈xO ((iG (bQ e)).foldl dH o) l↔_;rw[h2,g2,or_assoc];simp
def AUV (l:List aV):xO [] l=r7 l:=by
 obtain ⟨h1,h2⟩:=RQ l [] List.Pairwise.nil;exact AO7 h1 (AQ9 l) λs=>by rw[h2,JH];simp
end Go.Pv
namespace Go.Pv
open Go Go.Proofs IntKind
noncomputable def AY9:Env:=Env.of []
def A2B:FuncId->Hint:=b8 50 [(3,.inv [.own 5 1 .str,.val 6 false (.int .i64)])] (λ_=>bA)
def AJN:aU Tryz.prog AY9:=.nil _
def BTQ(s1:List iII×Int×PUnit)(a1:iII):List (List T):=List.map Sy.str.enc s1.1 ++ [[pPQ a1].reverse].reverse
def BTU(s1:List iII×Int×PUnit)(a1:iII)(a0:List iII):T:=T.sl false (List.map Sy.str.enc s1.1++(BT8 a1) ++ List.drop (Int.toNat s1.2.1) (List.take (BS3 a0).length (BS3 a0)))
def BT4(s1:List iII×Int×PUnit)(a1:iII):List (List T):=List.map Sy.str.enc s1.1++[[pPQ a1].reverse].reverse
def BTB(a0:List iII)(s1:List iII×Int×PUnit)(a1:iII)(R:T->Prop):Prop:=bL (jQ 1 (BS3 a0) && decide ((BS3 a0).length<=(BS3 a0).length) && (decide (0<=s1.2.1)&&decide (Int.toNat s1.2.1<=(BS3 a0).length))) (bL (eE 1 (List.drop (Int.toNat s1.2.1) (List.take (BS3 a0).length (BS3 a0))) && decide (((BTQ s1 a1).length + (List.drop (Int.toNat s1.2.1) (List.take (BS3 a0).length (BS3 a0))).length) * 16 <= 140737488355328) && decide ((BT4 s1 a1).length + (List.drop (Int.toNat s1.2.1) (List.take (BS3 a0).length (BS3 a0))).length <= 140737488355328)) (R (BTU s1 a1 a0)))
def BUF(s1:List iII×Int×PUnit)(a1:iII)(a0:List iII):T:=T.sl false (List.map Sy.str.enc s1.1++(BT8 a1) ++ List.drop (i64.wrap (s1.2.1+1)).toNat (List.take (BS3 a0).length (BS3 a0)))
def P7(a0:List iII)(a1:iII)(R:T->Prop):Prop:=bB (List iII×Int×PUnit) (λX0 s1=>aC (decide (s1.2.1<(↑(BS3 a0).length:Int))) (aR Sy.str (BS3 a0) s1.2.1 λ(y2:iII)=>aC (cK y2 a1) (aR Sy.str (BS3 a0) s1.2.1 λ(y3:iII)=>bL (decide (((BTE s1).length+1)*16<=140737488355328) && decide ((BTE s1).length+1<=140737488355328)) (dP Sy.str (List.map Sy.str.enc s1.1++(BT8 y3)) λ(y4:List iII)=>X0 (y4,i64.wrap (s1.2.1+1),()))) (bL (decide (((BTE s1).length+1)*16<=140737488355328) && decide ((BTE s1).length+1<=140737488355328)) (aC (decide (s1.2.1<(↑(BS3 a0).length:Int))) (aR Sy.str (BS3 a0) s1.2.1 λ(y5:iII)=>aC (decide (y5=a1)) (bL (jQ 1 (BS3 a0) && decide ((BS3 a0).length<=(BS3 a0).length) && (decide (0<=i64.wrap (s1.2.1+1)) && decide ((i64.wrap (s1.2.1+1)).toNat<=(BS3 a0).length))) (bL (eE 1 (List.drop (i64.wrap (s1.2.1+1)).toNat (List.take (BS3 a0).length (BS3 a0))) && decide (((BTQ s1 a1).length + (List.drop (i64.wrap (s1.2.1+1)).toNat (List.take (BS3 a0).length (BS3 a0))).length) * 16 <= 140737488355328) && decide ((BTQ s1 a1).length + (List.drop (i64.wrap (s1.2.1+1)).toNat (List.take (BS3 a0).length (BS3 a0))).length <= 140737488355328)) (R (BUF s1 a1 a0)))) (bL (jQ 1 (BS3 a0) && decide ((BS3 a0).length<=(BS3 a0).length) && (decide (0<=s1.2.1) && decide (Int.toNat s1.2.1<=(BS3 a0).length))) (bL (eE 1 (List.drop (Int.toNat s1.2.1) (List.take (BS3 a0).length (BS3 a0))) && decide (((BTQ s1 a1).length + (List.drop (Int.toNat s1.2.1) (List.take (BS3 a0).length (BS3 a0))).length) * 16 <= 140737488355328) && decide ((BTQ s1 a1).length + (List.drop (Int.toNat s1.2.1) (List.take (BS3 a0).length (BS3 a0))).length <= 140737488355328)) (R (BTU s1 a1 a0))))) (BTB a0 s1 a1 R)))) (bL (decide (((BTE s1).length+1)*16<=140737488355328) && decide ((BTE s1).length+1<=140737488355328)) (aC (decide (s1.2.1<(↑(BS3 a0).length:Int))) (aR Sy.str (BS3 a0) s1.2.1 λ(y6:iII)=>aC (decide (y6=a1)) (bL (jQ 1 (BS3 a0) && decide ((BS3 a0).length<=(BS3 a0).length) && (decide (0<=i64.wrap (s1.2.1+1)) && decide ((i64.wrap (s1.2.1+1)).toNat<=(BS3 a0).length))) (bL (eE 1 (List.drop (i64.wrap (s1.2.1+1)).toNat (List.take (BS3 a0).length (BS3 a0))) && decide (((BTQ s1 a1).length + (List.drop (i64.wrap (s1.2.1+1)).toNat (List.take (BS3 a0).length (BS3 a0))).length) * 16 <= 140737488355328) && decide ((BT4 s1 a1).length + (List.drop (i64.wrap (s1.2.1+1)).toNat (List.take (BS3 a0).length (BS3 a0))).length <= 140737488355328)) (R (BUF s1 a1 a0)))) (BTB a0 s1 a1 R)) (bL (jQ 1 (BS3 a0) && decide ((BS3 a0).length<=(BS3 a0).length) && (decide (0<=s1.2.1)&&decide (Int.toNat s1.2.1<=(BS3 a0).length))) (bL (eE 1 (List.drop (Int.toNat s1.2.1) (List.take (BS3 a0).length (BS3 a0))) && decide (((BT4 s1 a1).length + (List.drop (Int.toNat s1.2.1) (List.take (BS3 a0).length (BS3 a0))).length) * 16 <= 140737488355328) && decide ((BT4 s1 a1).length + (List.drop (Int.toNat s1.2.1) (List.take (BS3 a0).length (BS3 a0))).length <= 140737488355328)) (R (BTU s1 a1 a0))))))) ([],0,())
abbrev T0:Sh:=[(false,Sy.str.li),(false,Sy.str)]
def vV (x:List iII×iII):Option T:=match decide (x.1.length<=1000000000) with
 | true=>some (T.sl false (List.map Sy.str.enc (dH x.1 x.2)))
 | false=>none
noncomputable def vA:List T->Option T:=gS T0 vV
def AF7 {a0 a1}:vA [T.sl false (List.map Sy.str.enc a0),pPQ a1]=vV (a0,a1):=bH (s:=T0) rfl (a0,a1) rfl
def AW1:qU Tryz.prog 50 vA vV (cG T0) P7:=gV (a1:=(false,Sy.str.li)) (a2:=(false,Sy.str)) (sp:=vV) (F:=P7) (Hs:=A2B) (f:=50) (k:=8) AJN aY a6 (aO rfl) ⟨_,_,Tryz.func50,rfl⟩ rfl λ_ _ _=>by kernel_rfl
abbrev BCJ (rows:List (List T)) (o:List (List T)) (a:iII) (i:Int) (R:T->Prop):Prop :=
 bL (jQ 1 rows&&decide (rows.length<=rows.length)&&(decide (0<=i)&&decide (Int.toNat i<=rows.length)))
  (bL (eE 1 (List.drop (Int.toNat i) (List.take rows.length rows))&&decide (((o++[[pPQ a].reverse].reverse).length+(List.drop (Int.toNat i) (List.take rows.length rows)).length)*16<=140737488355328)&&decide ((o++[[pPQ a].reverse].reverse).length+(List.drop (Int.toNat i) (List.take rows.length rows)).length<=140737488355328))
   (R (T.sl false (o++[[pPQ a]]++List.drop (Int.toNat i) (List.take rows.length rows)))))
variable {R:T->Prop}
def A28 {l out:List iII} {a:iII} {j:Nat} (hj:j<=l.length) (hl:l.length<=1000000000) (ho:out.length<=1000000000) {i:Int} (hi:i=(j:Int)) (hR:R (T.sl false (List.map Sy.str.enc (out++a::l.drop j)))) :
  BCJ (List.map Sy.str.enc l) (List.map Sy.str.enc out) a i R:=by
 subst hi;have hd:List.drop (Int.toNat (j:Int)) (List.take (List.map Sy.str.enc l).length (List.map Sy.str.enc l))=List.map Sy.str.enc (l.drop j):=by
  rw[List.take_length,Int.toNat_natCast,List.map_drop]
 have hh:jQ 1 (List.map Sy.str.enc l)=true:=by cases l<;>rfl
 refine ⟨?_,?_,?_⟩
 ·rw[hh,Int.toNat_natCast,ae];simp only[ac,ah,Bool.true_and];exact ⟨al _,by omega,hj⟩
 ·rw[hd,yE];simp only[ac,ah,Bool.true_and,List.length_append,ae,List.length_drop,List.reverse_cons,List.reverse_nil,List.nil_append,List.length_cons,List.length_nil];omega
 ·rw[hd];rw[List.map_append,List.map_cons] at hR;rw[List.append_assoc];exact hR
abbrev BN0 (rows:List (List T)) (o:List (List T)) (a:iII) (i:Int) (R:T->Prop):Prop :=
 bL (decide ((o.length+1)*16<=140737488355328)&&decide (o.length+1<=140737488355328)) (aC (decide (i<(↑rows.length:Int)))
  (aR Sy.str rows i λy=>aC (decide (y=a)) (BCJ rows o a (i64.wrap (i+1)) R) (BCJ rows o a i R)) (BCJ rows o a i R))
def BN1 {l:List iII} {a:iII} {k:Nat} (hk:k<=l.length) (hl:l.length<=1000000000) (hw:dH l a=l.take k++dH (l.drop k) a) (hs:∀ h:k<l.length,cK l[k] a=false) (hR:R (T.sl false (List.map Sy.str.enc (dH l a)))) :
  BN0 (List.map Sy.str.enc l) (List.map Sy.str.enc (l.take k)) a (k:Int) R:=by
 have ho:(l.take k).length<=1000000000:=by rw[List.length_take];omega
 rw[hw] at hR;refine ⟨by rw[ae,ac];exact ⟨ai (by omega),ai (by omega)⟩,?_⟩;rw[ae];refine cA (λhlt=>?_) λhge=>?_
 ·have hlt:k<l.length:=by omega
  have hd:l.drop k=l[k]::l.drop (k+1):=List.drop_eq_getElem_cons hlt;have hn:=hs hlt;rw[bE (r:=.str) hlt];rw[hd,dH,if_neg (by rw[hn];exact Bool.false_ne_true)] at hR;refine cA (λhe=>?_) λhe=>?_
  ·rw[if_pos he] at hR;refine A28 (j:=k+1) (by omega) hl ho (bG _ (by omega) (by omega)) ?_;rw[he] at hR;exact hR
  ·rw[if_neg he,<-hd] at hR;exact A28 (j:=k) (by omega) hl ho rfl hR
 ·have hd:l.drop k=[]:=List.drop_eq_nil_of_le (by omega);refine A28 (j:=k) hk hl ho rfl ?_;rw[hd] at hR ⊢;exact hR
def AUU:aP Tryz.prog 50 vA:=AW1 λl a r h hb=>by
 clear hb;obtain ⟨hl,rfl⟩:=tD h;clear h;have hl:l.length<=1000000000:=of_decide_eq_true hl;unfold P7 BUF BTB BT4 BTU BT8 BTQ BTE BS3;refine bM l.length (λk s=>s=(l.take k,(k:Int),())/\dH l a=l.take k++dH (l.drop k) a) ⟨rfl,rfl⟩ ?_;rintro X k s hk ⟨rfl,hw⟩ hX;dsimp only;have fin:(∀ h:k<l.length,cK l[k] a=false)->BN0 (List.map Sy.str.enc l) (List.map Sy.str.enc (l.take k)) a (k:Int) (λy=>y=T.sl false (List.map Sy.str.enc (dH l a))):=λh=>BN1 hk hl hw h rfl;by_cases hlt:k<l.length
 ·refine fA (by simp[hlt]) ?_;rw[bE (r:=.str) hlt];refine sX (λhs=>?_) λhs=>?_
  ·rw[bE (r:=.str) hlt,ZU (by rw[List.length_take];omega),GK];refine hX _ hlt ⟨?_,?_⟩
   ·rw[List.take_succ_eq_append_getElem hlt,show i64.wrap ((k:Int)+1)=((k+1:Nat):Int) from bG _ (by omega) (by omega)]
   ·rw[hw,List.take_succ_eq_append_getElem hlt,List.append_assoc,List.drop_eq_getElem_cons hlt,dH,if_pos hs];rfl
  ·exact fin λ_=>hs
 ·refine iE (by simp[hlt]) ?_;exact fin λh=>absurd h hlt
noncomputable def BAA:Env:=Env.of [(49,.pure mX),(50,.pure vA)]
def BBT:FuncId->Hint:=b8 19 [(3,.inv [.val 3 false (.li .str),.val 4 false (.int .i64)]),(7,.inv [.val 3 false (.li .str),.val 6 false (.int .i64)])] (λ_=>bA)
def ASM:aU Tryz.prog BAA:=.cons AAD (.cons AUU (.nil _))
def ZH(a0:cN)(R:T->Prop):Prop:=bB (List iII×Int×PUnit) (λX0 s1=>aC (decide (s1.2.1<(↑(BTV a0).length:Int))) (aR aM (BTV a0) s1.2.1 λ(y2:aV)=>aJ BST (mX [aG true aM y2]) λ(y3:List iII)=>dP Sy.str (BTE s1) λ(y4:List iII)=>bB (List iII×Int×PUnit) (λX5 s6=>aC (decide (s6.2.1<(↑(BS3 y3).length:Int))) (aR Sy.str (BS3 y3) s6.2.1 λ(y7:iII)=>aJ BST (vA [T.sl false (BTE s6),pPQ y7]) λ(y8:List iII)=>BT1 y8 X5 s6) (dP Sy.str (BTE s6) λ(y10:List iII)=>X0 (y10,i64.wrap (s1.2.1+1),()))) (y4,0,())) (BTY R s1)) ([],0,())
abbrev ABY:Sh:=[(true,b9)]
def ANA (o:cN):Bool:=decide (o.2.length<=100)&&o.2.all SX
def ABB {o:cN} (h:ANA o=true):o.2.length<=100/\∀ e∈o.2,SX e=true:=by
 unfold ANA at h;rw[ac,ah] at h;exact ⟨h.1,List.all_eq_true.1 h.2⟩
def UJ (q:List (List UInt8)->List (List UInt8)) (l:List iII) (h:∀ m,(q m).length<=m.length):(lV q l).length<=l.length:=by
 unfold lV;rw[ae];exact Nat.le_trans (h _) (by simp)
def LG (l:List iII):(iG l).length<=l.length:=by
 unfold iG;refine Nat.le_trans (UJ _ _ λm=>List.length_filter_le _ _) (Nat.le_trans (UJ _ _ QV) (UJ _ _ λm=>by unfold eQ;simp))
def FV {x:aV} (h:SX x=true):(bQ x).length<=2000010:=by
 unfold SX at h;rw[ac,ah,ah] at h;unfold bQ
 repeat' split
 all_goals simp only[List.length_cons,List.length_nil,List.length_append]
 all_goals omega
def E7:∀ (m l:List iII),(m.foldl dH l).length<=l.length+m.length
 | [],l=>by simp
 | s::m,l=>by
  have h1:=E7 m (dH l s);have h2:=UL l s;rw[List.foldl_cons,List.length_cons];omega
def A9 (o:cN):Option T:=match ANA o with
 | true=>some (T.sl false (List.map Sy.str.enc (r7 o.2)))
 | false=>none
noncomputable def HD:List T->Option T:=gS ABY A9
def AMC {a0}:HD [aG true b9 a0]=A9 (a0):=bH (s:=ABY) rfl (a0) rfl
def A7L:xX Tryz.prog 19 HD A9 (cG ABY) ZH:=kC (a1:=(true,b9)) (sp:=A9) (F:=ZH) (Hs:=BBT) (f:=19) (k:=8) ASM aY a6 (aO rfl) ⟨_,_,Tryz.func19,rfl⟩ rfl λ_ _=>by kernel_rfl
variable {M:Nat}
def AOX {l:List aV} (hM:M<=3000000) (hl:l.length<=100) (hN:∀ e∈l,(iG (bQ e)).length<=M) (hok:∀ e∈l,SX e=true) (hR:R (T.sl false (List.map Sy.str.enc (xO [] l)))) :
  bB (List iII×Int×PUnit) (λX0 s1=>aC (decide (s1.2.1<(↑(List.map aM.enc l).length:Int))) (aR aM (List.map aM.enc l) s1.2.1 λy2=>aJ [(false,Sy.str.li)] (mX [aG true aM y2]) λ(y3:List iII)=>dP Sy.str (List.map Sy.str.enc s1.1) λy4 =>
   bB (List iII×Int×PUnit) (λX5 s6=>aC (decide (s6.2.1<(↑(List.map Sy.str.enc y3).length:Int))) (aR Sy.str (List.map Sy.str.enc y3) s6.2.1 λy7=>aJ [(false,Sy.str.li)] (vA [T.sl false (List.map Sy.str.enc s6.1),pPQ y7]) λ(y8:List iII)=>dP Sy.str (List.map Sy.str.enc y8) λy9=>X5 (y9,i64.wrap (s6.2.1+1),()))
    (dP Sy.str (List.map Sy.str.enc s6.1) λy10=>X0 (y10,i64.wrap (s1.2.1+1),()))) (y4,0,()))
   (R (T.sl false (List.map Sy.str.enc s1.1)))) ([],0,()):=by
 have dk:∀ {l:List iII} {K:List iII->Prop},K l->dP Sy.str (List.map Sy.str.enc l) K:=λh=>by rw[dJ (r:=.str) rfl];exact h
 refine bM l.length (λk s=>s=(xO [] (l.take k),(k:Int),())/\(xO [] (l.take k)).length<=k*M) ⟨rfl,Nat.zero_le _⟩ ?_;rintro X k s hk ⟨rfl,hz⟩ hX;dsimp only;rw[ae];refine cA (λhlt=>?_) λhge=>?_
 ·have hlt:k<l.length:=by omega
  rw[bE (r:=aM) hlt];have hn:=hok _ (ak hlt);refine aF (s:=[(false,Sy.str.li)]) (y:=iG (bQ l[k])) ((SA ..).trans (by unfold oA;rw[hn,AOY];rfl)) (dk ?_);have hB:=hN _ (ak hlt);have eF:xO [] (l.take (k+1))=(iG (bQ l[k])).foldl dH (xO [] (l.take k)):=by
   unfold xO;rw[List.take_succ_eq_append_getElem hlt,List.foldl_append];rfl
  generalize iG (bQ l[k])=B at hB eF ⊢;generalize xO [] (l.take k)=O at hz eF ⊢;have hkM:k*M<=100*3000000:=Nat.mul_le_mul (by omega) hM;refine bM B.length (λj q=>q=((B.take j).foldl dH O,(j:Int),())) rfl ?_;rintro Y j q hj rfl hY;dsimp only;rw[ae];have hO:=E7 (B.take j) O;rw[List.length_take] at hO;refine cA (λhlt2=>?_) λhge2=>?_
  ·have hlt2:j<B.length:=by omega
   rw[bE (r:=.str) hlt2];refine aF (s:=[(false,Sy.str.li)]) (y:=dH ((B.take j).foldl dH O) B[j]) ((AF7 ..).trans (by unfold vV;dsimp only;rw[ai (by omega)];rfl)) (dk ?_);refine hY _ hlt2 ?_;rw[List.take_succ_eq_append_getElem hlt2,List.foldl_append,show i64.wrap ((j:Int)+1)=((j+1:Nat):Int) from bG _ (by omega) (by omega)];rfl
  ·have:j=B.length:=by omega
   subst this;rw[List.take_length];refine dk (hX _ hlt ⟨?_,?_⟩)
   ·rw[eF,show i64.wrap ((k:Int)+1)=((k+1:Nat):Int) from bG _ (by omega) (by omega)]
   ·have:=E7 B O;rw[eF,Nat.succ_mul];omega
 ·have:k=l.length:=by omega
  subst this;rw[List.take_length];exact hR
def A4C:aP Tryz.prog 19 HD:=A7L λo r h hb=>by
 clear hb;obtain ⟨hc,rfl⟩:=tD h;clear h;obtain ⟨hl,hok⟩:=ABB hc;unfold ZH BTV BTY BT1 BTE BS3 BST;exact AOX (M:=2000010) (l:=o.2) (R:=λy=>y=T.sl false (List.map Sy.str.enc (r7 o.2))) (by omega) hl (λe he=>Nat.le_trans (LG _) (FV (hok e he))) hok (by rw[AUV])
noncomputable def A9Y:Env:=Env.of []
def BBH:FuncId->Hint:=b8 24 [(4,.inv [.val 5 false (.int .i64)]),(10,.inv [.val 7 false (.int .i64)])] (λ_=>bA)
def AR8:aU Tryz.prog A9Y:=.nil _
def BS0:T:=pPR false
def BUE(y2:aV):List (List T):=List.map aA.li.enc y2.2.2.2.2.1.2.2.2.2.2.2.1.2
def Y3(a0:cN)(a1:Int)(R:T->Prop):Prop:=aC (decide (100<(↑(ByteArray.size a0.1):Int))) (R BS0) (aC (decide (a1<(↑(BTV a0).length:Int))) (R BS0) (bB (Int×PUnit) (λX0 s1=>aC (decide (s1.1<(↑(BTV a0).length:Int))) (aR aM (BTV a0) s1.1 λ(y2:aV)=>aC (decide (40<(↑(BTH y2).length:Int))) (R BS0) (aC (decide (40<(↑(BTF y2).length:Int))) (R BS0) (aC (decide (100 < (↑(List.map aA.enc y2.2.2.2.2.1.2.2.2.2.2.2.1.1).length : Int))) (R BS0) (aC (decide (20 < (↑(BUE y2).length : Int))) (R BS0) (bB (Int×PUnit) (λX3 s4=>aC (decide (s4.1 < (↑(BUE y2).length : Int))) (aR aA.li (BUE y2) s4.1 λ(y5:List aX)=>aC (decide (100<(↑(List.map aA.enc y5).length:Int))) (R BS0) (BTZ X3 s4)) (BTZ X0 s1)) (0,())))))) (R (pPR true))) (0,())))
abbrev ABM:Sh:=[(true,b9),(false,(Sy.int IntKind.i64))]
def RB (x:aV):Bool:=decide ((x.2.2.2.2.2.2.1.2.2.1.length:Int)<=40)&&(decide ((x.2.2.2.2.2.2.1.2.2.2.2.length:Int)<=40)&&(decide ((x.2.2.2.2.1.2.2.2.2.2.2.1.1.length:Int)<=100)&&(decide ((x.2.2.2.2.1.2.2.2.2.2.2.1.2.length:Int)<=20)&&x.2.2.2.2.1.2.2.2.2.2.2.1.2.all λh=>decide ((h.length:Int)<=100))))
def p9 (o:cN) (n:Int):Bool:=decide ((o.1.size:Int)<=100)&&(decide ((o.2.length:Int)<=n)&&o.2.all RB)
def I3 (x:cN×Int):Option T:=match decide (x.2<=1000) with
 | true=>some (Sh.enc jJ (p9 x.1 x.2))
 | false=>none
noncomputable def oZ:List T->Option T:=gS ABM I3
def wK {a0 a1}:oZ [aG true b9 a0,pPP a1]=I3 (a0,a1):=bH (s:=ABM) rfl (a0,a1) rfl
def A67:qU Tryz.prog 24 oZ I3 (cG ABM) Y3:=gV (a1:=(true,b9)) (a2:=(false,(Sy.int IntKind.i64))) (sp:=I3) (F:=Y3) (Hs:=BBH) (f:=24) (k:=8) AR8 aY a6 (aO rfl) ⟨_,_,Tryz.func24,rfl⟩ rfl λ_ _ _=>by kernel_rfl
def RM:aP Tryz.prog 24 oZ:=A67 λo n r h hb=>by
 clear hb;obtain ⟨hn,rfl⟩:=tD h;clear h;have hn:n<=1000:=of_decide_eq_true hn;have no:p9 o n=false->pPR false=Sh.enc jJ (p9 o n):=λh=>by rw[h];rfl
 unfold Y3 BUE BTV BTZ BTH BTF BS0;simp only[ae];refine kF (λh=>no (by unfold p9;rw[aj h];rfl)) λg1=>?_;refine kF (λh=>no (by unfold p9;rw[aj h,Bool.false_and,Bool.and_false])) λg2=>?_;refine bM o.2.length (λk s=>s=((k:Int),())/\p9 o n=(o.2.drop k).all RB) ⟨rfl,by unfold p9;rw[ai g1,ai g2];rfl⟩ ?_;rintro X k s hk ⟨rfl,he⟩ hX;dsimp only;refine cA (λhlt=>?_) λhge=>?_
 ·have hlt:k<o.2.length:=by omega
  rw[QD hlt] at he;rw[bE (r:=aM) hlt];generalize o.2[k]=x at he ⊢;unfold RB at he;refine kF (λh=>no (by rw[he,aj h];rfl)) λk1=>?_;rw[ai k1,Bool.true_and] at he;refine kF (λh=>no (by rw[he,aj h];rfl)) λk2=>?_;rw[ai k2,Bool.true_and] at he;refine kF (λh=>no (by rw[he,aj h];rfl)) λk3=>?_;rw[ai k3,Bool.true_and] at he;refine kF (λh=>no (by rw[he,aj h];rfl)) λk4=>?_;rw[ai k4,Bool.true_and] at he;generalize x.2.2.2.2.1.2.2.2.2.2.2.1.2=H at k4 he ⊢;refine bM H.length (λj q=>q=((j:Int),())/\p9 o n=((H.drop j).all (λh=>decide ((h.length:Int)<=100))&&(o.2.drop (k+1)).all RB)) ⟨rfl,by rw[List.drop_zero];exact he⟩ ?_;rintro Y j q hj ⟨rfl,hq⟩ hY;dsimp only;refine cA (λhlt2=>?_) λhge2=>?_
  ·have hlt2:j<H.length:=by omega
   rw[QD hlt2] at hq;rw[bE (r:=.li aA) hlt2];refine kF (λh=>no (by rw[hq,aj h];rfl)) λk5=>?_;rw[ai k5,Bool.true_and] at hq;exact hY _ hlt2 ⟨by rw[show i64.wrap ((j:Int)+1)=((j+1:Nat):Int) from bG _ (by omega) (by omega)],hq⟩
  ·rw[List.drop_eq_nil_of_le (by omega),List.all_nil,Bool.true_and] at hq;exact hX _ hlt ⟨by rw[show i64.wrap ((k:Int)+1)=((k+1:Nat):Int) from bG _ (by omega) (by omega)],hq⟩
 ·rw[he,List.drop_eq_nil_of_le (by omega)];rfl
def RC {o:cN} {n:Int} (hn:n<=100) (h:p9 o n=true):ANA o=true:=by
 unfold p9 at h;rw[ac,ac,ah,ah] at h;obtain ⟨_,h2,h3⟩:=h;unfold ANA;rw[ac];refine ⟨ai (by omega),List.all_eq_true.2 λx hx=>?_⟩;have hx:=List.all_eq_true.1 h3 x hx;unfold RB at hx;rw[ac,ac,ah,ah] at hx;unfold SX;rw[ac];exact ⟨ai (by omega),ai (by omega)⟩
end Go.Pv
namespace Go.Pv
open Go Go.Proofs IntKind
def A9B:Value->Value->Bool
 | .int k a,.int j b=>decide (k=j)&&decide (a=b)
 | .string a,.string b=>decide (a=b)
 | .bool a,.bool b=>a == b
 | .slice none a b,.slice none c d=>a == c&&b == d
 | _,_=>false
def AKL {α:Type} (f:α->α->Bool):List α->List α->Bool
 | [],[]=>true
 | a::l,b::m=>f a b&&AKL f l m
 | _,_=>false
def YD:Nat->T->T->Bool
 | n+1,.v a,.v b=>A9B a b
 | n+1,.agg l,.agg m=>AKL (YD n) l m
 | n+1,.sl f l,.sl g m=>(f == g)&&AKL (AKL (YD n)) l m
 | _,_,_=>false
def G2:List (List T×T)->List T->Option T
 | [],_=>none
 | (A,r)::l,args=>match AKL (YD 20) args A with
  | true=>some r
  | false=>G2 l args
def A9C {a b:Value} (h:A9B a b=true):a=b:=by
 unfold A9B at h;split at h
 ·simp only[ac,ah] at h;rw[h.1,h.2]
 ·rw[of_decide_eq_true h]
 ·rw[eq_of_beq h]
 ·simp only[ac,beq_iff_eq] at h;rw[h.1,h.2]
 ·cases h
def GG {α:Type} {f:α->α->Bool} (hf:∀ a b,f a b=true->a=b):∀ l m,AKL f l m=true->l=m
 | [],[],_=>rfl
 | [],_::_,h=>by cases h
 | _::_,[],h=>by cases h
 | a::l,b::m,h=>by
  simp only[AKL,ac] at h;rw[hf a b h.1,GG hf l m h.2]
def T1:∀ (n:Nat) (a b:T),YD n a b=true->a=b
 | 0,_,_,h=>by simp[YD] at h
 | n+1,a,b,h=>by
  unfold YD at h;split at h
  ·rename_i e;rw[A9C h]
  ·rename_i e;cases e;rw[GG (T1 n) _ _ h]
  ·rename_i e;cases e;simp only[ac,beq_iff_eq] at h;rw[h.1,GG (GG (T1 n)) _ _ h.2]
  ·cases h
def BR:∀ {l:List (List T×T)} {args:List T} {r:T},G2 l args=some r->(args,r)∈l
 | [],_,_,h=>by cases h
 | (A,q)::l,args,r,h=>by
  unfold G2 at h;split at h
  ·rename_i e;cases h;rw[GG (T1 20) _ _ e];exact am
  ·exact List.mem_cons_of_mem _ (BR h)
variable {P:Program}{g:List T->Option T}
def KH {f:FuncId} (hg:aP P f g) {l:List (List T×T)} (h:∀ x∈l,g x.1=some x.2):aP P f (G2 l):=⟨hg.entry,λw own args vs r hG ho ha hr=>hg.calls w own args vs r hG ho ha (h _ (BR hr))⟩
end Go.Pv
namespace Go.Pv
open Go Go.Proofs IntKind
def AEN:fT Tryz.prog 318 (qY 1 8):=kZ aY a6 ⟨_,_,Tryz.func318,rfl⟩ ⟨λR=>by kernel_rfl,λfl R=>by kernel_rfl,λfl a rows R=>by kernel_rfl⟩
def VZ:fT Tryz.prog 103 (qY 3 40):=kZ aY a6 ⟨_,_,Tryz.func103,rfl⟩ ⟨λR=>by kernel_rfl,λfl R=>by kernel_rfl,λfl a rows R=>by kernel_rfl⟩
def V2:fT Tryz.prog 104 (qY 6 72):=kZ aY a6 ⟨_,_,Tryz.func104,rfl⟩ ⟨λR=>by kernel_rfl,λfl R=>by kernel_rfl,λfl a rows R=>by kernel_rfl⟩
def VY:fT Tryz.prog 105 (qY 3 40):=kZ aY a6 ⟨_,_,Tryz.func105,rfl⟩ ⟨λR=>by kernel_rfl,λfl R=>by kernel_rfl,λfl a rows R=>by kernel_rfl⟩
def APK:fT Tryz.prog 136 (qY 2 16):=kZ aY a6 ⟨_,_,Tryz.func136,rfl⟩ ⟨λR=>by kernel_rfl,λfl R=>by kernel_rfl,λfl a rows R=>by kernel_rfl⟩
def AEO:fT Tryz.prog 137 (qY 1 24):=kZ aY a6 ⟨_,_,Tryz.func137,rfl⟩ ⟨λR=>by kernel_rfl,λfl R=>by kernel_rfl,λfl a rows R=>by kernel_rfl⟩
def V1:fT Tryz.prog 106 (qY 18 208):=kZ aY a6 ⟨_,_,Tryz.func106,rfl⟩ ⟨λR=>by kernel_rfl,λfl R=>by kernel_rfl,λfl a rows R=>by kernel_rfl⟩
def V0:fT Tryz.prog 107 (qY 5 88):=kZ aY a6 ⟨_,_,Tryz.func107,rfl⟩ ⟨λR=>by kernel_rfl,λfl R=>by kernel_rfl,λfl a rows R=>by kernel_rfl⟩
def AEP:fT Tryz.prog 243 (qY 1 16):=kZ aY a6 ⟨_,_,Tryz.func243,rfl⟩ ⟨λR=>by kernel_rfl,λfl R=>by kernel_rfl,λfl a rows R=>by kernel_rfl⟩
def APU:FuncId->Bool:=λf=>[260,86,128,69,184,191,150].contains f
noncomputable def A58:Env:=Env.of [(83,.pure tW),(318,.fresh (qY 1 8)),(103,.fresh (qY 3 40)),(104,.fresh (qY 6 72)),(105,.fresh (qY 3 40)),(136,.fresh (qY 2 16)),(137,.fresh (qY 1 24)),(106,.fresh (qY 18 208)),(107,.fresh (qY 5 88)),(243,.fresh (qY 1 16)),(280,.grow 3 lD),(5000000000+38,.mark)]
def AVP:aU Tryz.prog A58:=aU.cons (x:=.pure tW) yS (aU.cons (x:=.fresh (qY 1 8)) AEN (aU.cons (x:=.fresh (qY 3 40)) VZ (aU.cons (x:=.fresh (qY 6 72)) V2 (aU.cons (x:=.fresh (qY 3 40)) VY (aU.cons (x:=.fresh (qY 2 16)) APK (aU.cons (x:=.fresh (qY 1 24)) AEO (aU.cons (x:=.fresh (qY 18 208)) V1 (aU.cons (x:=.fresh (qY 5 88)) V0 (aU.cons (x:=.fresh (qY 1 16)) AEP (aU.cons (x:=.grow 3 lD) E5 (aU.cons (x:=.mark) trivial (aU.nil _))))))))))))
noncomputable def gEd:List T->Option T:=TB Tryz.prog 400 APU A58 40 66
def BIH:aP Tryz.prog 66 gEd:=mS aY a6 400 APU AVP 40 (oS (k:=39) (fn:=_) (c:=_) (by kernel_rfl) Tryz.func66 rfl (by kernel_rfl))
def i0:T:=.v (.int .i64 0)
def s0:T:=.v (.string ⟨#[]⟩)
def n0:T:=.v (.slice none 0 0)
def l0:T:=.sl false []
def BNU:List T:=[T.agg [pPQ (⟨#[72,49]⟩),T.sl false [[pPQ (⟨#[65,49]⟩),pPP 2,pPQ (⟨#[66,49]⟩)],[pPQ (⟨#[66,49]⟩),pPP 1,s0]],T.sl false [[pPQ (⟨#[80,49]⟩),pPP 1,pPP 4,pPQ (⟨#[65,49]⟩),s0,i0,n0,n0,s0,i0,pPP 5,i0,i0,i0,i0,i0,i0,i0]],l0,l0,l0],T.agg [n0,n0],T.agg [pPP 1,s0,s0,pPQ (⟨#[65,50]⟩),pPP 2,pPQ (⟨#[66,49]⟩),s0,i0,i0,s0,s0,i0,n0,n0,s0,i0,i0,i0,i0,i0,i0,i0,i0,i0,s0,s0,s0,i0,i0,i0,s0,s0,n0,i0,n0,i0,s0,s0]]
def BNX:T:=T.cE [T.agg [pPQ (⟨#[72,49]⟩),T.sl false [[pPQ (⟨#[65,49]⟩),pPP 2,pPQ (⟨#[66,49]⟩)],[pPQ (⟨#[65,50]⟩),pPP 2,pPQ (⟨#[66,49]⟩)],[pPQ (⟨#[66,49]⟩),pPP 1,s0]],T.sl false [[pPQ (⟨#[80,49]⟩),pPP 1,pPP 4,pPQ (⟨#[65,49]⟩),s0,i0,l0,l0,s0,i0,pPP 5,i0,i0,i0,i0,i0,i0,i0]],l0,l0,l0],i0]
def BPN:gEd BNU=some BNX:=by kernel_rfl
def BNV:List T:=[T.agg [pPQ (⟨#[72,49]⟩),T.sl false [[pPQ (⟨#[65,49]⟩),pPP 2,pPQ (⟨#[66,49]⟩)],[pPQ (⟨#[65,50]⟩),pPP 2,pPQ (⟨#[66,49]⟩)],[pPQ (⟨#[66,49]⟩),pPP 1,s0]],T.sl false [[pPQ (⟨#[80,49]⟩),pPP 1,pPP 4,pPQ (⟨#[65,49]⟩),s0,i0,l0,l0,s0,i0,pPP 5,i0,i0,i0,i0,i0,i0,i0]],l0,l0,l0],T.agg [n0,n0],T.agg [pPP 6,pPQ (⟨#[80,49]⟩),pPQ (⟨#[65,50]⟩),s0,i0,s0,s0,i0,i0,s0,s0,i0,n0,n0,s0,i0,i0,i0,i0,i0,i0,i0,i0,i0,s0,s0,s0,i0,i0,i0,s0,s0,n0,i0,n0,i0,s0,s0]]
def BNY:T:=T.cE [T.agg [pPQ (⟨#[72,49]⟩),T.sl false [[pPQ (⟨#[65,49]⟩),pPP 2,pPQ (⟨#[66,49]⟩)],[pPQ (⟨#[65,50]⟩),pPP 2,pPQ (⟨#[66,49]⟩)],[pPQ (⟨#[66,49]⟩),pPP 1,s0]],T.sl false [[pPQ (⟨#[80,49]⟩),pPP 1,pPP 4,pPQ (⟨#[65,50]⟩),s0,i0,l0,l0,s0,i0,pPP 5,i0,i0,i0,i0,i0,i0,i0]],l0,l0,l0],i0]
def BPO:gEd BNV=some BNY:=by kernel_rfl
def BNW:List T:=[T.agg [pPQ (⟨#[72,49]⟩),T.sl false [[pPQ (⟨#[65,49]⟩),pPP 2,pPQ (⟨#[66,49]⟩)],[pPQ (⟨#[65,50]⟩),pPP 2,pPQ (⟨#[66,49]⟩)],[pPQ (⟨#[66,49]⟩),pPP 1,s0]],T.sl false [[pPQ (⟨#[80,49]⟩),pPP 1,pPP 4,pPQ (⟨#[65,49]⟩),s0,i0,l0,l0,s0,i0,pPP 5,i0,i0,i0,i0,i0,i0,i0]],l0,l0,l0],T.agg [n0,n0],T.agg [pPP 4,pPQ (⟨#[80,57]⟩),s0,s0,i0,s0,s0,i0,i0,s0,s0,i0,n0,n0,s0,i0,i0,i0,i0,i0,i0,i0,i0,i0,s0,s0,s0,i0,i0,i0,s0,s0,n0,i0,n0,i0,s0,s0]]
def BNZ:T:=T.cE [T.agg [s0,l0,l0,l0,l0,l0],pPP 8]
def BPP:gEd BNW=some BNZ:=by kernel_rfl
def VU:List (List T×T):=[(BNU,BNX),(BNV,BNY),(BNW,BNZ)]
def APM:aP Tryz.prog 66 (G2 VU):=KH BIH λx hx=>by
 simp only[VU,List.mem_cons,List.not_mem_nil,or_false] at hx;rcases hx with rfl|rfl|rfl
 ·exact BPN
 ·exact BPO
 ·exact BPP
end Go.Pv
namespace Go.Pv
open Go Go.Proofs Go.RowKit Go.Shelf IntKind
def BLG:Ren:=⟨λ|166=>35|240=>59|276=>79|169=>39|n=>n,λ|0=>0|3=>3|4=>4|5=>5|9=>9|20=>20|37=>92|70=>91|72=>94|75=>96|80=>101|127=>129|164=>147|n=>n,λ|n=>n⟩
def BOG:Lays.n166 Tryz.prog BLG:={
 mixed:=aY
 f166:=Tryz.func35.trans (congrArg some (by kernel_rfl))
 f240:=Tryz.func59.trans (congrArg some (by kernel_rfl))
 f276:=Tryz.func79.trans (congrArg some (by kernel_rfl))
 t0:=by kernel_rfl
 a0:=λ_=>by kernel_rfl
 z0:=λ_=>by kernel_rfl
 v0:=λ_=>by kernel_rfl
 t3:=by kernel_rfl
 a3:=λ_=>by kernel_rfl
 z3:=λ_=>by kernel_rfl
 v3:=λ_=>by kernel_rfl
 t4:=by kernel_rfl
 a4:=λ_=>by kernel_rfl
 z4:=λ_=>by kernel_rfl
 v4:=λ_=>by kernel_rfl
 t9:=by kernel_rfl
 a9:=λ_=>by kernel_rfl
 z9:=λ_=>by kernel_rfl
 v9:=λ_=>by kernel_rfl
 t20:=by kernel_rfl
 a20:=λ_=>by kernel_rfl
 z20:=λ_=>by kernel_rfl
 v20:=λ_=>by kernel_rfl
 t37:=by kernel_rfl
 a37:=λ_=>by kernel_rfl
 z37:=λ_=>by kernel_rfl
 v37:=λ_=>by kernel_rfl
 t70:=by kernel_rfl
 a70:=λ_=>by kernel_rfl
 z70:=λ_=>by kernel_rfl
 v70:=λ_=>by kernel_rfl
 t72:=by kernel_rfl
 a72:=λ_=>by kernel_rfl
 z72:=λ_=>by kernel_rfl
 v72:=λ_=>by kernel_rfl
 t75:=by kernel_rfl
 a75:=λ_=>by kernel_rfl
 z75:=λ_=>by kernel_rfl
 v75:=λ_=>by kernel_rfl
 t164:=by kernel_rfl
 a164:=λ_=>by kernel_rfl
 z164:=λ_=>by kernel_rfl
 v164:=λ_=>by kernel_rfl }
def BOF:Lays.n169 Tryz.prog BLG:={
 mixed:=aY
 f169:=Tryz.func39.trans (congrArg some (by kernel_rfl))
 t0:=by kernel_rfl
 a0:=λ_=>by kernel_rfl
 z0:=λ_=>by kernel_rfl
 v0:=λ_=>by kernel_rfl
 t3:=by kernel_rfl
 a3:=λ_=>by kernel_rfl
 z3:=λ_=>by kernel_rfl
 v3:=λ_=>by kernel_rfl
 t9:=by kernel_rfl
 a9:=λ_=>by kernel_rfl
 z9:=λ_=>by kernel_rfl
 v9:=λ_=>by kernel_rfl
 t37:=by kernel_rfl
 a37:=λ_=>by kernel_rfl
 z37:=λ_=>by kernel_rfl
 v37:=λ_=>by kernel_rfl
 t70:=by kernel_rfl
 a70:=λ_=>by kernel_rfl
 z70:=λ_=>by kernel_rfl
 v70:=λ_=>by kernel_rfl
 t72:=by kernel_rfl
 a72:=λ_=>by kernel_rfl
 z72:=λ_=>by kernel_rfl
 v72:=λ_=>by kernel_rfl
 t127:=by kernel_rfl
 a127:=λ_=>by kernel_rfl
 z127:=λ_=>by kernel_rfl
 v127:=λ_=>by kernel_rfl }
def A3V:Builder.Extra Tryz.prog BLG where
 sizeBuilder:=by kernel_rfl
 liesBuilder:=by kernel_rfl
 t5:=by kernel_rfl
 a5:=λ_=>by kernel_rfl
 z5:=λ_=>by kernel_rfl
 v5:=λ_=>by kernel_rfl
 infoByte:=by kernel_rfl
 cellsByte:=by kernel_rfl
 sizeByte:=by kernel_rfl
 neB5:=by decide
def ATD (B b:Nat) (bs:List Value) (s:iII) (w:World) (h:Lib.IsBuilderF 94 5 B b bs w) (hlen:bs.length+s.size<=140737488355328) (hBw:B<=w.heap.size) :
  Calls Tryz.prog 35 #[.pointer (some ⟨b,0,none⟩),.string s] w λe w'=>e = .returned (.tuple #[.int .i64 s.size,.nilIface])/\(Lib.BuilderAtF 94 5 B b (.pointer (some ⟨b,0,none⟩)) (bs++Lib.strCells s) w'/\Below B w w') :=
 Any.Builder_WriteString_f BOG A3V B b bs s w h hlen hBw
def AKU (B b:Nat) (l:List UInt8) (w:World) (h:Lib.IsBuilderF 94 5 B b (Lib.byteCells l) w) (hBw:B<=w.heap.size) :
  Calls Tryz.prog 39 #[.pointer (some ⟨b,0,none⟩)] w λe w'=>e = .returned (.string ⟨l.toArray⟩)/\(Lib.IsBuilderF 94 5 B b (Lib.byteCells l) w'/\Below B w w') :=
 Any.Builder_String_any_f BOF A3V B b l w h hBw
end Go.Pv
namespace Go.Pv
open Go Go.Proofs Go.RowKit IntKind
variable {P:Program}{ops:Array Oper}{Q:Exit->Act->World->Prop}
def mT {rest:List Nat} {a:Act} {w:World} {i:Nat} {o:Oper} (h:ops[i]? = some o) (hg:o.guard=none) (hh:o.wp P a w (wpOps P ops Q rest) Q):wpOps P ops Q (i::rest) a w:=by
 unfold wpOps;rw[h];have:Region.wanted o (yielded ops a.tmps)=true:=by unfold Region.wanted;rw[hg]
 simp only[this,if_true];exact .inl hh
def AQL {o:Oper} {a:Act} {w:World} {next:Act->World->Prop} {f:FuncId} {c:Call} {vs:Array Value} (ho:o.op = .call c) (hc:c.callee=Callee.value (Operand.func f)) (hv:c.args.map a.eval=vs)
  (hent:∃ fn,P.funcs[f]? = some fn/\(fn.name == "runtime.NumGoroutine")=false/\fn.body.isNone=false) (h:Calls P f vs w (λe w'=>∃ v,e = .returned v/\next (a.put o.dst v) w')):o.wp P a w next Q:=by
 obtain ⟨fn,e1,e2,e3⟩:=hent
 have e2':¬ fn.name = "runtime.NumGoroutine" := by simpa using e2
 have e3':¬ fn.body=none:=by intro h;simp[h] at e3
 have he:(execOp a.eval o).run P w = .ok (.enter f vs) w:=by
  simp only[execOp,ho,resolve,hc];simp[Deferred.ofValue,invoke,callFunc,Act.eval,e1,e2',e3',hv]
 unfold Oper.wp;rw[he];refine h.mono ?_;rintro e w' ⟨v,rfl,h3⟩;exact h3
noncomputable def F0 (rows:List (List T)) (k:Nat):Nat->D:=λt=>if t=16 then .p (.sl false rows) else if t=18 then .p (.v (.int .i64 (k:Int))) else .any
noncomputable def s1 (t:Nat) (d:D):Nat->D:=λi=>if i=t then d else .any
variable {ρ:Nat->Option Loc}
def A8Q {w:World} {own:Nat->Prop} {t:Nat} {d:D} {a:Act} (h:Rd w own ρ d (a.tmps.getD t undef)):∀ x,Rd w own ρ (ev (s1 t d) x) (a.eval x):=λx=>by
 cases x with
 | tmp i =>
  show Rd w own ρ (if i=t then d else .any) (a.tmps.getD i undef);by_cases e:i=t
  ·subst e;rw[if_pos rfl];exact h
  ·rw[if_neg e];exact .any _
 | const v=>exact .p _ _ (.v v)
 | global g=>exact .p _ _ (.v _)
 | func f=>exact .p _ _ (.fn f [] [] #[] #[] rfl rfl (λi hi=>by simp at hi) (λi hi=>by simp at hi))
noncomputable def zE:List D:=match tz? Tryz.prog 68 with
 | some z=>z.cells.toList.map λv=>.p (.v v)
 | none=>[]
noncomputable def σA:Nat->Option bJ:=cB (λ_=>none) 0 (some (.rows false [zE]))
noncomputable def σB (x:aV):Nat->Option bJ:=cB σA 0 (some (.rows false [(aM.enc x).map .p]))
def BLV:((tz? Tryz.prog 68).bind λz=>(pX (z.cells.toList.map λv=>.p (.v v))).map λb=>((.ptr 0 0 0:D),cB (λ_=>none) 0 (some b)))=some (.ptr 0 0 0,σA):=by kernel_rfl
def BJV (x:aV):vF Tryz.prog (λ_=>none) 68 (.p (.ref (aM.enc x)))=some (.p (.agg (aM.enc x))):=by kernel_rfl
def BFH (x:aV):kD Tryz.prog σA 68 (.ptr 0 0 0) (.p (.agg (aM.enc x)))=some (σB x):=by kernel_rfl
def BJU (x:aV):vF Tryz.prog (σB x) 68 (.ptr 0 0 0)=some (.p (.agg (aM.enc x))):=by kernel_rfl
def BDS {rows:List (List T)} {k:Nat} {x:aV} (hrow:rows[k]? = some (aM.enc x)):dE Tryz.prog (λ_=>none) 23 (.p (.sl false rows)) (.p (.v (.int .i64 (k:Int))))=some (.p (.ref (aM.enc x))):=by
 have e1:mU Tryz.prog 23=some 68:=by kernel_rfl
 have e2:tsz? Tryz.prog 68=some 38:=by kernel_rfl
 unfold dE;simp only[e1,e2,fO,Int.toNat_natCast,hrow];rw[if_neg (by omega),if_pos (by rfl)]
def LP {a:Act} {i:Nat} {v:Value} (h:i<a.tmps.size):(a.put (some i) v).tmps.getD i undef=v:=by
 simp[Act.put,Array.getD_eq_getD_getElem?,h]
def ANG {a:Act} {i j:Nat} {v:Value} (h:i≠j):(a.put (some i) v).tmps.getD j undef=a.tmps.getD j undef:=by
 simp[Act.put,Array.getD_eq_getD_getElem?,Array.getElem?_setIfInBounds,h]
def AR {a:Act} {i:Nat} {v:Value}:(a.put (some i) v).tmps.size=a.tmps.size:=by simp[Act.put]
noncomputable def cxF (w:World):Cx:=Q0 Tryz.prog (λ_=>False) w
variable {o0 o1 o2:Oper}
def AQX {id:Nat} {o3:Oper} (hops:ops = #[o0,o1,o2,o3]) (g0:o0.guard=none) (g1:o1.guard=none) (g2:o2.guard=none) (g3:o3.guard=none)
  (p0:o0.op = .indexAddr 23 (.tmp 16) (.tmp 18)) (d0:o0.dst=some 20) (p1:o1.op = .load 68 (.tmp 20)) (d1:o1.dst=some 21) (p2:o2.op = .alloc 68) (d2:o2.dst=some 5) (p3:o3.op = .store 68 (.tmp 5) (.tmp 21)) (d3:o3.dst=none) {a:Act} {w:World} (hG:Good Tryz.prog w) (hsz:a.tmps.size=27) {rows:List (List T)} {x:aV} {k:Nat}
  (h16:cP w (λ_=>False) (.sl false rows) (a.tmps.getD 16 undef)) (h18:a.tmps.getD 18 undef = .int .i64 (k:Int)) (hrow:rows[k]? = some (aM.enc x))
  (hQ:∀ v20 v21 v5 w' ρ,Inv (cxF w) ρ (σB x) 2 w'->Good Tryz.prog w'->Rd w' (Own (cxF w) ρ (σB x)) ρ (.ptr 0 0 0) v5->Q .normal (((a.put (some 20) v20).put (some 21) v21).put (some 5) v5) w') :
  (Code.region id ops false).wp Tryz.prog Q a w:=by
 subst hops;refine wp_region ?_;show wpOps _ _ _ [0,1,2,3] _ _;have hI:Inv (cxF w) (λ_=>none) (λ_=>none) 0 w:=BJO Tryz.prog (λ_=>False) w hG (λb h=>h.elim);have own0:∀ b,Own (cxF w) (λ_=>none) (λ_=>none) b->False:=λb hb=>by
  rcases hb with hb|⟨k,l,x,hk,_,_⟩
  ·exact hb
  ·cases hk
 refine mT (o:=o0) rfl g0 ?_;have hs0:∀ y,Rd w (Own (cxF w) (λ_=>none) (λ_=>none)) (λ_=>none) (ev (F0 rows k) y) (a.eval y):=λy=>by
  cases y with
  | tmp i =>
   show Rd _ _ _ (if i=16 then .p (.sl false rows) else if i=18 then .p (.v (.int .i64 (k:Int))) else .any) (a.tmps.getD i undef);by_cases e:i=16
   ·subst e;rw[if_pos rfl];exact .p _ _ (h16.less own0)
   ·rw[if_neg e];by_cases e2:i=18
    ·subst e2;rw[if_pos rfl,h18];exact .p _ _ (.v _)
    ·rw[if_neg e2];exact .any _
  | const v=>exact .p _ _ (.v v)
  | global g=>exact .p _ _ (.v _)
  | func f=>exact .p _ _ (.fn f [] [] #[] #[] rfl rfl (λi hi=>by simp at hi) (λi hi=>by simp at hi))
 refine AHJ (cx:=cxF w) (E:=Env.of []) (aU.nil _) hI hG hs0 hs0 (d:=.p (.ref (aM.enc x))) (by rw[p0];exact BDS hrow) λv20 w1 b1 hv20=>?_;rw[d0];have hI1:=hI.grow b1 (al _);have hG1:=hG.below b1;refine mT (o:=o1) rfl g1 ?_;have hs1:=A8Q (t:=20) (a:=a.put (some 20) v20) (by rw[LP (by omega)];exact hv20);refine AHJ (cx:=cxF w) (E:=Env.of []) (aU.nil _) hI1 hG1 hs1 hs1 (d:=.p (.agg (aM.enc x))) (by rw[p1];exact BJV x) λv21 w2 b2 hv21=>?_;rw[d1];have hI2:=hI1.grow b2 (al _);have hG2:=hG1.below b2;refine mT (o:=o2) rfl g2 ?_;have hs2:=A8Q (t:=21) (a:=(a.put (some 20) v20).put (some 21) v21) (by rw[LP (by rw[AR];omega)];exact hv21);refine AG4 (cx:=cxF w) (E:=Env.of []) (aU.nil _) hI2 hG2 hs2 (d:=.ptr 0 0 0) (σ':=σA) (n':=1) (by
  rw[p2];show one 0 ((tz? Tryz.prog 68).bind λz=>(pX (z.cells.toList.map λv=>.p (.v v))).map λb=>((.ptr 0 0 0:D),cB (λ_=>none) 0 (some b)))=_;rw[BLV];rfl) λv5 w3 ρ3 hI3 hk3 hv5=>?_
 rw[d2];have hG3:=hI2.pC hI3 hk3 hG2;refine mT (o:=o3) rfl g3 ?_;have hv21':=hk3.rd hv21;have hs3:∀ y,Rd w3 (Own (cxF w) ρ3 σA) ρ3 (ev (λi=>if i=5 then .ptr 0 0 0 else if i=21 then .p (.agg (aM.enc x)) else .any) y) ((((a.put (some 20) v20).put (some 21) v21).put (some 5) v5).eval y):=λy=>by
  cases y with
  | tmp i =>
   show Rd _ _ _ (if i=5 then .ptr 0 0 0 else if i=21 then .p (.agg (aM.enc x)) else .any) ((((a.put (some 20) v20).put (some 21) v21).put (some 5) v5).tmps.getD i undef);by_cases e:i=5
   ·subst e;rw[if_pos rfl,LP (by rw[AR,AR];omega)];exact hv5
   ·rw[if_neg e];by_cases e2:i=21
    ·subst e2;rw[if_pos rfl,ANG (by decide),LP (by rw[AR];omega)];exact hv21'
    ·rw[if_neg e2];exact .any _
  | const v=>exact .p _ _ (.v v)
  | global g=>exact .p _ _ (.v _)
  | func f=>exact .p _ _ (.fn f [] [] #[] #[] rfl rfl (λi hi=>by simp at hi) (λi hi=>by simp at hi))
 refine AG4 (cx:=cxF w) (E:=Env.of []) (aU.nil _) hI3 hG3 hs3 (d:=.p (.v undef)) (σ':=σB x) (n':=2) (by
  rw[p3];show one 1 ((kD Tryz.prog σA 68 (.ptr 0 0 0) (.p (.agg (aM.enc x)))).map λσ'=>((.p (.v undef):D),σ'))=_;rw[BFH];rfl) λv' w4 ρ4 hI4 hk4 _=>?_
 rw[d3];exact hQ v20 v21 v5 w4 ρ4 hI4 (hI3.pC hI4 hk4 hG3) (hk4.rd hv5)
variable {ge:List T->Option T}
def AQY {id:Nat} {c1 c2:Call} (hops:ops = #[o0,o1,o2]) (g0:o0.guard=none) (g1:o1.guard=none) (g2:o2.guard=none)
  (p0:o0.op = .load 68 (.tmp 5)) (d0:o0.dst=some 22) (p1:o1.op = .call c1) (q1:c1.callee=Callee.value (Operand.func 38)) (r1:c1.args = #[.tmp 22]) (d1:o1.dst=some 23)
  (p2:o2.op = .call c2) (q2:c2.callee=Callee.value (Operand.func 35)) (r2:c2.args = #[.tmp 3,.tmp 23]) (d2:o2.dst=some 24) {a:Act} {w w0:World} {x:aV} (hI:Inv (cxF w0) ρ (σB x) 2 w) (hG:Good Tryz.prog w) (hsz:a.tmps.size=27) (hv5:Rd w (Own (cxF w0) ρ (σB x)) ρ (.ptr 0 0 0) (a.tmps.getD 5 undef)) {eB:iII} (fe:aP Tryz.prog 38 ge) (hge:ge [aG true aM x]=some (.v (.string eB)))
  {ptr:Value} (h3:a.tmps.getD 3 undef=ptr)
  (hW:∀ v22 v23 w',Below w.heap.size w w'->Calls Tryz.prog 35 #[ptr,.string eB] w' λe w''=>∃ v,e = .returned v/\Q .normal (((a.put (some 22) v22).put (some 23) v23).put (some 24) v) w'') :
  (Code.region id ops false).wp Tryz.prog Q a w:=by
 subst hops;refine wp_region ?_;show wpOps _ _ _ [0,1,2] _ _;refine mT (o:=o0) rfl g0 ?_;have hs0:=A8Q (t:=5) (a:=a) hv5;refine AHJ (cx:=cxF w0) (E:=Env.of []) (aU.nil _) hI hG hs0 hs0 (d:=.p (.agg (aM.enc x))) (by rw[p0];exact BJU x) λv22 w1 b1 hv22=>?_;rw[d0];have hI1:=hI.grow b1 (al _);have hG1:=hG.below b1;have hr:cP w1 (Own (cxF w0) ρ (σB x)) (T.agg (aM.enc x)) v22:=by
  cases hv22 with
  | p _ _ h=>exact h
 refine mT (o:=o1) rfl g1 ?_;refine AQL (vs:=#[v22]) p1 q1 (by rw[r1];simp only[List.map_toArray,List.map_cons,List.map_nil];exact congrArg (λv=>#[v]) (LP (by omega))) fe.entry ?_;refine (fe.calls w1 _ [aG true aM x] #[v22] (.v (.string eB)) hG1 (λb hb=>Own.lt hI1 hb) (dF.one hr) hge).mono ?_;rintro e w2 ⟨v23,rfl,hv23,b2⟩;cases hv23;refine ⟨_,rfl,?_⟩;rw[d1];refine mT (o:=o2) rfl g2 ?_;refine AQL (vs:=#[ptr,.string eB]) p2 q2 ?_ ⟨_,Tryz.func35,rfl,rfl⟩ ?_
 ·rw[r2];simp only[List.map_toArray,List.map_cons,List.map_nil];show #[((a.put (some 22) v22).put (some 23) (.string eB)).tmps.getD 3 undef,((a.put (some 22) v22).put (some 23) (.string eB)).tmps.getD 23 undef]=_;rw[ANG (by decide),ANG (by decide),h3,LP (by rw[AR];omega)]
 ·rw[d2];exact hW v22 _ w2 (b1.trans (b2.mono b1.size))
end Go.Pv
namespace Go.Pv
open Go Go.Proofs Go.RowKit IntKind
variable {ge:List T->Option T}
set_option maxHeartbeats 4000000 in
def ATS (id:iII) (n cap:Nat) (w:World) (tx ls:iII) (M:Nat) (L:List aV) (hn:L.length=n) (hn9:n<=1000000000) (St:List UInt8->World->Prop) (P:Nat->List UInt8) (hz:tx.size+ls.size<=M) (hM:M<=1000000000)
  (hP0:P 0=(tx++ls).data.toList) (fe:aP Tryz.prog 38 ge) (eB:aV->iII) (hPs:∀ k (h:k<L.length),P (k+1)=P k++(eB L[k]).data.toList) (hPM:∀ k (h:k<L.length),(P k).length+(eB L[k]).size<=M) (hok:∀ k (h:k<L.length),ge [aG true aM L[k]]=some (.v (.string (eB L[k]))))
  (W2:World) (hW2:(w.alloc (.cells #[.string id,.slice none n cap] 25)).alloc (.cells #[.pointer none,.slice none 0 0] 94)=W2) (h2:St [] W2)
  (hd:∀ l W,St l W->St l W.drew) (hb:∀ l W W',St l W->Below W.heap.size W W'->St l W') (hG:∀ l W,St l W->Good Tryz.prog W)
  (hc0:∀ l W,St l W->W.cell? ⟨w.heap.size,0,none⟩=some (.string id))
  (hc:∀ l W,St l W->W.cell? ⟨w.heap.size,1,none⟩=some (.slice none n cap))
  (hR:∀ l W,St l W->cP W (λ_=>False) (.sl false (List.map aM.enc L)) (.slice none n cap))
  (hT:∀ W,St [] W->Calls Tryz.prog 36 #[.string id] W λe W'=>e = .returned (.string tx)/\St [] W')
  (hL:∀ W,St [] W->Calls Tryz.prog 37 #[.int .i64 (n:Int)] W λe W'=>e = .returned (.string ls)/\St [] W')
  (hW:∀ l s W,St l W->l.length+s.size<=M->Calls Tryz.prog 35 #[.pointer (some ⟨w.heap.size+1,0,none⟩),.string s] W λe W'=>e = .returned (.tuple #[.int .i64 s.size,.nilIface])/\St (l++s.data.toList) W')
  (hS:∀ l W,St l W->Calls Tryz.prog 39 #[.pointer (some ⟨w.heap.size+1,0,none⟩)] W λe W'=>e = .returned (.string ⟨l.toArray⟩)/\Below w.heap.size w W') :
  Calls Tryz.prog 12 #[.agg #[.string id,.slice none n cap]] w λe w'=>e = .returned (.string ⟨(P n).toArray⟩)/\Below w.heap.size w w':=by
 go_enter Tryz.func12,Tryz.ntmps12
 go_wp2_with fail
 go_cut [] from 6 to 14 (λwx=>St (tx++ls).data.toList wx)
 case first =>
  have k2:=hc _ _ h2;have k3:=hc0 _ _ h2
  go_region_with (first
   | (go_at_call 36;refine (hT _ ?_).mono ?_;(first|assumption|(apply hd;assumption)|(apply hd;apply hd;assumption));rintro e W3 ⟨rfl,h3⟩;have k4:=hc _ _ h3;have k5:=hc0 _ _ h3)
   | (go_at_call 37;refine (hL _ ?_).mono ?_;(first|assumption|(apply hd;assumption)|(apply hd;apply hd;assumption));rintro e W4 ⟨rfl,h4⟩;have k6:=hc _ _ h4;have k7:=hc0 _ _ h4)
   | (go_at_call 35;refine (hW [] _ _ ?_ ?_).mono ?_;(first|assumption|(apply hd;assumption)|(apply hd;apply hd;assumption));(rw[ByteArray.size_append];simpa using hz);rintro e W5 ⟨rfl,h5⟩))
  all_goals (go_wp2_with fail;go_meet;rw[List.nil_append] at h5;exact h5)
 case rest =>
  have k2:=hc _ _ hcut
  go_wp2_with fail
  go_loopg [18] n (λg s18 wx=>∃ k:Nat,s18 = .int .i64 (k:Int)/\k+g=n/\St (P k) wx)
  case atStart=>exact ⟨0,rfl,by omega,by rw[hP0];exact hcut⟩
  case round =>
   obtain ⟨k,rfl,hk,hs⟩:=hrel;cases gk with
   | zero =>
    obtain rfl:k=n:=by omega
    go_wp2_with (go_at_call 39;refine (hS _ _ hs).mono ?_;rintro e W6 ⟨rfl,h6⟩)
    go_ret
    exact ⟨rfl,h6⟩
   | succ g =>
    have hlt:k<n:=by omega
    have hlt':(k:Int)<(n:Int):=by omega
    have hkl:k<L.length:=by omega
    go_upto_region 5 with fail
    rename_i K7 hK7 K5 hK5;refine AQX rfl rfl rfl rfl rfl rfl rfl rfl rfl rfl rfl rfl rfl (x:=L[k]) (k:=k) (hG _ _ hs) rfl (hR _ _ hs) rfl (by rw[List.getElem?_map,List.getElem?_eq_getElem hkl];rfl) ?_;intro v20 v21 v5 w' ρ hI hG5 hv5;have hs5:=hb _ _ _ hs hI.below.toB;refine hK5 _ _ ?_;refine AQY rfl rfl rfl rfl rfl rfl rfl rfl rfl rfl rfl rfl rfl rfl (w0:=wr) (x:=L[k]) hI hG5 rfl hv5 fe (hok k hkl) rfl ?_;intro v22 v23 w'' hb6;refine (hW _ _ _ (hb _ _ _ hs5 hb6) (hPM k hkl)).mono ?_;rintro e w8 ⟨rfl,h8⟩;rw[<-hPs k hkl] at h8;refine ⟨_,rfl,?_⟩;refine hK7 _ _ ?_;simp only[Act.put]
    go_wp2_with fail
    go_roundg g
    case measure=>omega
    case rel=>exact ⟨k+1,rfl,by omega,h8⟩
set_option maxHeartbeats 4000000 in
def ATT (id:iII) (ad:Addr)(n cap:Nat) (w:World) (tx ls:iII) (M:Nat) (L:List aV) (hn:L.length=n) (hn9:n<=1000000000) (St:List UInt8->World->Prop) (P:Nat->List UInt8) (hz:tx.size+ls.size<=M) (hM:M<=1000000000)
  (hP0:P 0=(tx++ls).data.toList) (fe:aP Tryz.prog 38 ge) (eB:aV->iII) (hPs:∀ k (h:k<L.length),P (k+1)=P k++(eB L[k]).data.toList) (hPM:∀ k (h:k<L.length),(P k).length+(eB L[k]).size<=M) (hok:∀ k (h:k<L.length),ge [aG true aM L[k]]=some (.v (.string (eB L[k]))))
  (W2:World) (hW2:(w.alloc (.cells #[.string id,.slice (some ad) n cap] 25)).alloc (.cells #[.pointer none,.slice none 0 0] 94)=W2) (h2:St [] W2)
  (hd:∀ l W,St l W->St l W.drew) (hb:∀ l W W',St l W->Below W.heap.size W W'->St l W') (hG:∀ l W,St l W->Good Tryz.prog W)
  (hc0:∀ l W,St l W->W.cell? ⟨w.heap.size,0,none⟩=some (.string id))
  (hc:∀ l W,St l W->W.cell? ⟨w.heap.size,1,none⟩=some (.slice (some ad) n cap))
  (hR:∀ l W,St l W->cP W (λ_=>False) (.sl false (List.map aM.enc L)) (.slice (some ad) n cap))
  (hT:∀ W,St [] W->Calls Tryz.prog 36 #[.string id] W λe W'=>e = .returned (.string tx)/\St [] W')
  (hL:∀ W,St [] W->Calls Tryz.prog 37 #[.int .i64 (n:Int)] W λe W'=>e = .returned (.string ls)/\St [] W')
  (hW:∀ l s W,St l W->l.length+s.size<=M->Calls Tryz.prog 35 #[.pointer (some ⟨w.heap.size+1,0,none⟩),.string s] W λe W'=>e = .returned (.tuple #[.int .i64 s.size,.nilIface])/\St (l++s.data.toList) W')
  (hS:∀ l W,St l W->Calls Tryz.prog 39 #[.pointer (some ⟨w.heap.size+1,0,none⟩)] W λe W'=>e = .returned (.string ⟨l.toArray⟩)/\Below w.heap.size w W') :
  Calls Tryz.prog 12 #[.agg #[.string id,.slice (some ad) n cap]] w λe w'=>e = .returned (.string ⟨(P n).toArray⟩)/\Below w.heap.size w w':=by
 go_enter Tryz.func12,Tryz.ntmps12
 go_wp2_with fail
 go_cut [] from 6 to 14 (λwx=>St (tx++ls).data.toList wx)
 case first =>
  have k2:=hc _ _ h2;have k3:=hc0 _ _ h2
  go_region_with (first
   | (go_at_call 36;refine (hT _ ?_).mono ?_;(first|assumption|(apply hd;assumption)|(apply hd;apply hd;assumption));rintro e W3 ⟨rfl,h3⟩;have k4:=hc _ _ h3;have k5:=hc0 _ _ h3)
   | (go_at_call 37;refine (hL _ ?_).mono ?_;(first|assumption|(apply hd;assumption)|(apply hd;apply hd;assumption));rintro e W4 ⟨rfl,h4⟩;have k6:=hc _ _ h4;have k7:=hc0 _ _ h4)
   | (go_at_call 35;refine (hW [] _ _ ?_ ?_).mono ?_;(first|assumption|(apply hd;assumption)|(apply hd;apply hd;assumption));(rw[ByteArray.size_append];simpa using hz);rintro e W5 ⟨rfl,h5⟩))
  all_goals (go_wp2_with fail;go_meet;rw[List.nil_append] at h5;exact h5)
 case rest =>
  have k2:=hc _ _ hcut
  go_wp2_with fail
  go_loopg [18] n (λg s18 wx=>∃ k:Nat,s18 = .int .i64 (k:Int)/\k+g=n/\St (P k) wx)
  case atStart=>exact ⟨0,rfl,by omega,by rw[hP0];exact hcut⟩
  case round =>
   obtain ⟨k,rfl,hk,hs⟩:=hrel;cases gk with
   | zero =>
    obtain rfl:k=n:=by omega
    go_wp2_with (go_at_call 39;refine (hS _ _ hs).mono ?_;rintro e W6 ⟨rfl,h6⟩)
    go_ret
    exact ⟨rfl,h6⟩
   | succ g =>
    have hlt:k<n:=by omega
    have hlt':(k:Int)<(n:Int):=by omega
    have hkl:k<L.length:=by omega
    go_upto_region 5 with fail
    rename_i K7 hK7 K5 hK5;refine AQX rfl rfl rfl rfl rfl rfl rfl rfl rfl rfl rfl rfl rfl (x:=L[k]) (k:=k) (hG _ _ hs) rfl (hR _ _ hs) rfl (by rw[List.getElem?_map,List.getElem?_eq_getElem hkl];rfl) ?_;intro v20 v21 v5 w' ρ hI hG5 hv5;have hs5:=hb _ _ _ hs hI.below.toB;refine hK5 _ _ ?_;refine AQY rfl rfl rfl rfl rfl rfl rfl rfl rfl rfl rfl rfl rfl rfl (w0:=wr) (x:=L[k]) hI hG5 rfl hv5 fe (hok k hkl) rfl ?_;intro v22 v23 w'' hb6;refine (hW _ _ _ (hb _ _ _ hs5 hb6) (hPM k hkl)).mono ?_;rintro e w8 ⟨rfl,h8⟩;rw[<-hPs k hkl] at h8;refine ⟨_,rfl,?_⟩;refine hK7 _ _ ?_;simp only[Act.put]
    go_wp2_with fail
    go_roundg g
    case measure=>omega
    case rel=>exact ⟨k+1,rfl,by omega,h8⟩
end Go.Pv
namespace Go.Pv
open Go Go.Proofs IntKind
section
variable {V c d : Int} {k v : Nat}
end
end Go.Pv
namespace Go.Pv
open Go Go.Proofs IntKind
end Go.Pv
namespace Go.Pv
open Go Go.Proofs IntKind
end Go.Pv
namespace Go.Pv
open Go Go.Proofs IntKind
def uL {α:Type} (f:α->iII):List α->iII
 | []=>⟨#[]⟩
 | a::l=>f a++uL f l
def zb (b:iII):(⟨#[]⟩:iII)++b=b:=by
 apply ByteArray.ext;simp[ByteArray.data_append]
def yJ {α:Type} (f:α->iII):∀ (a b:List α),uL f (a++b)=uL f a++uL f b
 | [],b=>(zb _).symm
 | x::a,b=>by
  show f x++uL f (a++b)=f x++uL f a++uL f b;rw[yJ f a b,ByteArray.append_assoc]
end Go.Pv
namespace Go.Pv
open Go Go.Proofs Go.RowKit IntKind
def LL (hd:iII) (eB:aV->iII) (l:List aV) (k:Nat):List UInt8:=(hd++uL eB (l.take k)).data.toList
variable {hd:iII}{eB:aV->iII}
def LM {l:List aV} {k:Nat} (h:k<l.length):LL hd eB l (k+1)=LL hd eB l k++(eB l[k]).data.toList:=by
 unfold LL;rw[List.take_succ_eq_append_getElem h,yJ,<-ByteArray.append_assoc];show (_++(eB l[k]++uL eB [])).data.toList=_;rw[show eB l[k]++uL eB []=eB l[k] from ByteArray.append_empty];simp[ByteArray.data_append]
def BCF:∀ (l m:List aV),l <+: m->(uL eB l).size<=(uL eB m).size
 | l,_,⟨r,rfl⟩=>by rw[yJ,ByteArray.size_append];omega
def BE9 {l:List aV} (k:Nat):(LL hd eB l k).length<=(hd++uL eB l).size:=by
 have h:=BCF (eB:=eB) (l.take k) l (List.take_prefix ..);have e:(LL hd eB l k).length=(hd++uL eB (l.take k)).size:=rfl;rw[e,ByteArray.size_append,ByteArray.size_append];omega
variable {ge gt gl:List T->Option T}
set_option maxHeartbeats 400000 in
def ATR (fe:aP Tryz.prog 38 ge) (ft:aP Tryz.prog 36 gt) (fl:aP Tryz.prog 37 gl) (eB:aV->iII) (tx ls:iII) (o:cN)
  (gT:gt [.v (.string o.1)]=some (.v (.string tx))) (gL':gl [.v (.int .i64 (o.2.length:Int))]=some (.v (.string ls))) (hE:∀ x∈o.2,ge [aG true aM x]=some (.v (.string (eB x)))) (k4:((tx++ls)++uL eB o.2).size<=1000000000) (k2:o.2.length<=1000000000)
  (ad:Option Addr) (n cap:Nat) (hn:o.2.length=n) (w:World) (hG:Good Tryz.prog w) (hr:cP w (λ_=>False) (.sl false (List.map aM.enc o.2)) (.slice ad n cap)) :
  Calls Tryz.prog 12 #[.agg #[.string o.1,.slice ad n cap]] w λe w'=>e = .returned (.string ((tx++ls)++uL eB o.2))/\Below w.heap.size w w':=by
 have gL:gl [.v (.int .i64 (n:Int))]=some (.v (.string ls)):=by rw[<-hn];exact gL'
 have hn9:n<=1000000000:=by omega
 obtain ⟨M,hM⟩:∃ M:Nat,M=1000000000:=⟨_,rfl⟩
 have hM9:M<=1000000000:=Nat.le_of_eq hM;have s1:(w.alloc (.cells #[.string o.1,.slice ad n cap] 25)).heap.size=w.heap.size+1:=Array.size_push ..;have b1:Below w.heap.size w (w.alloc (.cells #[.string o.1,.slice ad n cap] 25)):=(Below.refl _ w).alloc (al _) _;obtain ⟨W2,hW2⟩:∃ W2,(w.alloc (.cells #[.string o.1,.slice ad n cap] 25)).alloc (.cells #[.pointer none,.slice none 0 0] 94)=W2:=⟨_,rfl⟩
 have s2:W2.heap.size=w.heap.size+2:=by rw[<-hW2];show (Array.push _ _).size=_;rw[Array.size_push,s1]
 have b2:Below w.heap.size w W2:=by rw[<-hW2];exact b1.alloc (by rw[s1];omega) _
 have c2:W2.heap[w.heap.size]? = some (.cells #[.string o.1,.slice ad n cap] 25):=by
  rw[<-hW2,Below.heap_alloc _ _ _ (by rw[s1];omega)];exact heap_alloc_new w _
 have h0:Lib.IsBuilderF 94 5 (w.heap.size+1) (w.heap.size+1) [] W2:=by
  have:=Lib.IsBuilderF.of (Lib.fresh_isBuilder 94 5 (w.alloc (.cells #[.string o.1,.slice ad n cap] 25)));rw[s1] at this;rw[<-hW2];exact this
 obtain ⟨St,hSt⟩:∃ St:List UInt8->World->Prop,St=λl W=>Below w.heap.size w W/\W.heap[w.heap.size]? = some (.cells #[.string o.1,.slice ad n cap] 25)/\Lib.IsBuilderF 94 5 (w.heap.size+1) (w.heap.size+1) (Lib.byteCells l) W/\w.heap.size+2<=W.heap.size:=⟨_,rfl⟩
 have hSt':∀ l W,St l W↔Below w.heap.size w W/\W.heap[w.heap.size]? = some (.cells #[.string o.1,.slice ad n cap] 25)/\Lib.IsBuilderF 94 5 (w.heap.size+1) (w.heap.size+1) (Lib.byteCells l) W/\w.heap.size+2<=W.heap.size:=λl W=>by rw[hSt]
 clear hSt;have hb:∀ l W W',St l W->Below W.heap.size W W'->St l W':=λl W W' h hb=>by
  obtain ⟨g1,g2,g3,g4⟩:=(hSt' l W).1 h;refine (hSt' l W').2 ⟨g1.trans (hb.mono (by omega)),?_,g3.below hb,Nat.le_trans g4 hb.size⟩;rw[hb.block _ (by omega)];exact g2
 have hGS:∀ l W,St l W->Good Tryz.prog W:=λl W h=>hG.below ((hSt' l W).1 h).1;have hcell:∀ l W,St l W->W.heap[w.heap.size]? = some (.cells #[.string o.1,.slice ad n cap] 25):=λl W h=>((hSt' l W).1 h).2.1;have hz:tx.size+ls.size<=M:=by
  rw[ByteArray.size_append,ByteArray.size_append] at k4;omega
 have fin:(⟨(LL (tx++ls) eB o.2 n).toArray⟩:iII)=(tx++ls)++uL eB o.2:=by
  unfold LL;rw[<-hn,List.take_length]
 rw[<-fin];have go:(∀ W,St [] W->Calls Tryz.prog 36 #[.string o.1] W λe W'=>e = .returned (.string tx)/\St [] W') ->
   (∀ W,St [] W->Calls Tryz.prog 37 #[.int .i64 (n:Int)] W λe W'=>e = .returned (.string ls)/\St [] W') ->
   (∀ l s W,St l W->l.length+s.size<=M->Calls Tryz.prog 35 #[.pointer (some ⟨w.heap.size+1,0,none⟩),.string s] W λe W'=>e = .returned (.tuple #[.int .i64 s.size,.nilIface])/\St (l++s.data.toList) W') ->
   (∀ l W,St l W->Calls Tryz.prog 39 #[.pointer (some ⟨w.heap.size+1,0,none⟩)] W λe W'=>e = .returned (.string ⟨l.toArray⟩)/\Below w.heap.size w W') ->
   Calls Tryz.prog 12 #[.agg #[.string o.1,.slice ad n cap]] w λe w'=>e = .returned (.string ⟨(LL (tx++ls) eB o.2 n).toArray⟩)/\Below w.heap.size w w':=λaT aL aW aS=>by
  have hP0:LL (tx++ls) eB o.2 0=(tx++ls).data.toList:=by
   unfold LL;rw[List.take_zero];exact congrArg (λb:iII=>b.data.toList) ByteArray.append_empty
  have hPM:∀ k (h:k<o.2.length),(LL (tx++ls) eB o.2 k).length+(eB o.2[k]).size<=M:=λk h=>by
   have h1:=BE9 (hd:=tx++ls) (eB:=eB) (l:=o.2) (k+1);rw[LM h,List.length_append] at h1;have:(eB o.2[k]).data.toList.length=(eB o.2[k]).size:=rfl;omega
  have hd:∀ l W,St l W->St l W.drew:=λl W h=>hb l W _ h ((Below.refl _ W).drew);have c0:∀ l W,St l W->W.cell? ⟨w.heap.size,0,none⟩=some (.string o.1):=λl W h=>by simp[World.cell?,hcell l W h]
  have c1:∀ l W,St l W->W.cell? ⟨w.heap.size,1,none⟩=some (.slice ad n cap):=λl W h=>by simp[World.cell?,hcell l W h]
  have hR:∀ l W,St l W->cP W (λ_=>False) (.sl false (List.map aM.enc o.2)) (.slice ad n cap):=λl W h=>hr.grow ((hSt' l W).1 h).1;have h20:St [] W2:=(hSt' _ _).2 ⟨b2,c2,h0,by omega⟩;cases ad with
  | none=>exact ATS o.1 n cap w tx ls M o.2 hn hn9 St (LL (tx++ls) eB o.2) hz hM9 hP0 fe eB (λk h=>LM h) hPM (λk h=>hE _ (ak h)) W2 hW2 h20 hd hb hGS c0 c1 hR aT aL aW aS
  | some ad=>exact ATT o.1 ad n cap w tx ls M o.2 hn hn9 St (LL (tx++ls) eB o.2) hz hM9 hP0 fe eB (λk h=>LM h) hPM (λk h=>hE _ (ak h)) W2 hW2 h20 hd hb hGS c0 c1 hR aT aL aW aS
 refine go (λW h=>?_) (λW h=>?_) (λl s W h hs=>?_) λl W h=>?_
 ·refine (ft.calls W (λ_=>False) _ _ _ (hGS _ _ h) (λ_ h=>h.elim) (dF.one (.v _)) gT).mono ?_;rintro e W' ⟨v,rfl,h1,h2⟩;cases h1;exact ⟨rfl,hb _ _ _ h h2⟩
 ·refine (fl.calls W (λ_=>False) _ _ _ (hGS _ _ h) (λ_ h=>h.elim) (dF.one (.v _)) gL).mono ?_;rintro e W' ⟨v,rfl,h1,h2⟩;cases h1;exact ⟨rfl,hb _ _ _ h h2⟩
 ·obtain ⟨g1,g2,g3,g4⟩:=(hSt' l W).1 h;refine (ATD (w.heap.size+1) (w.heap.size+1) _ s W g3 (by rw[Lib.byteCells_length];omega) (by omega)).mono ?_;rintro e W' ⟨rfl,h1,h2⟩;refine ⟨rfl,(hSt' _ _).2 ⟨g1.trans (h2.mono (by omega)),by rw[h2.block _ (by omega)];exact g2,?_,Nat.le_trans g4 h2.size⟩⟩;rw[Lib.strCells_eq,<-Lib.byteCells_append] at h1;exact Or.inr h1
 ·obtain ⟨g1,g2,g3,g4⟩:=(hSt' l W).1 h;refine (AKU (w.heap.size+1) (w.heap.size+1) l W g3 (by omega)).mono ?_;rintro e W' ⟨rfl,_,h2⟩;exact ⟨rfl,g1.trans (h2.mono (by omega))⟩
variable {g:List T->Option T}
def BC6 (fe:aP Tryz.prog 38 ge) (ft:aP Tryz.prog 36 gt) (fl:aP Tryz.prog 37 gl) (eB:aV->iII) (tx ls:iII) (o:cN)
  (gT:gt [.v (.string o.1)]=some (.v (.string tx))) (gL:gl [.v (.int .i64 (o.2.length:Int))]=some (.v (.string ls))) (hE:∀ x∈o.2,ge [aG true aM x]=some (.v (.string (eB x)))) (k4:((tx++ls)++uL eB o.2).size<=1000000000) (k2:o.2.length<=1000000000) (hg:∀ args r,g args=some r->args=[aG true b9 o]/\r = .v (.string ((tx++ls)++uL eB o.2))):aP Tryz.prog 12 g where
 entry:=⟨_,Tryz.func12,rfl,rfl⟩
 calls:=λw own args vs r hG ho ha hgr=>by
  obtain ⟨rfl,rfl⟩:=hg _ _ hgr;obtain ⟨hz,hv⟩:=ha;rcases vs with ⟨l⟩
  match l,hz,hv with
  | [v0],_,hv =>
   have h0:cP w own (T.agg [pPQ o.1,T.sl false (List.map aM.enc o.2)]) v0:=hv 0 Nat.zero_lt_one;cases h0 with
   | agg _ vc g1 g2 =>
    rcases vc with ⟨m⟩
    match m,g1,g2 with
    | [x0,x1],_,g2 =>
     have q0:cP w own (pPQ o.1) x0:=g2 0 (show 0<2 by decide);have q1:cP w own (T.sl false (List.map aM.enc o.2)) x1:=g2 1 (show 1<2 by decide);obtain ⟨ad,cap,rfl,_⟩:=q1.isSlice;cases q0;refine (ATR fe ft fl eB tx ls o gT gL hE k4 k2 ad _ cap (by rw[ae]) w hG (q1.less λ_ h=>h.elim)).mono ?_;rintro e w' ⟨rfl,h2⟩;exact ⟨_,rfl,.v _,h2⟩
end Go.Pv
namespace Go.Pv
open Go Go.RowKit IntKind
section
variable {ag : Bool} {r : Sy}
def BHY {es:List (iII×r.den)} {seen:List Nat} {i:Nat} (hi:i<es.length) (K:iII->r.den->Prop) (hk:K es[i].1 es[i].2):CU .str ag r (List.map (b6 .str ag r) es) (seen++[i]) K :=
 ⟨i,es[i].1,es[i].2,by simp,by simp[hi],hk⟩
abbrev A2D:=List iII×(Nat×List Nat×Nat)×PUnit
end
end Go.Pv
namespace Go.Pv
open Go Go.Proofs IntKind
def AQW {ag:Bool} {r:Sy} {es:List (iII×r.den)} {E:List (Value×D)} (hE:E=List.map (b6 .str ag r) es) {o:List iII} (P:iII×r.den->Bool)
  {EXIT:A2D->Prop} {BODY:(A2D->Prop)->A2D->Nat->iII->r.den->Prop}
  (hbody:∀ (X:A2D->Prop) (out:List iII) (seen:List Nat) (i:Nat) (hi:i<es.length),out.length<=o.length+seen.length->seen.length<es.length ->
   (P es[i]=true->X (out++[es[i].1],(E.length,seen++[i],E.length),()))->(P es[i]=false->X (out,(E.length,seen++[i],E.length),()))->BODY X (out,(E.length,seen,E.length),()) i es[i].1 es[i].2)
  (hexit:∀ (o2:List iII) (seen:List Nat),(∀ s,s∈o2↔∃ e∈es,e.1=s/\P e=true)->o2.length<=es.length->((es.map λe=>e.1).Nodup->o2.Nodup)->EXIT (o++o2,(E.length,seen,E.length),())) :
  bB A2D (λX s=>bL (decide (E.length<=s.2.1.1)&&decide (s.2.1.1<=s.2.1.2.2)) (sQ E.length s.2.1.2.1 (EXIT s) λi=>bL (decide (E.length=E.length)) (CU .str ag r E (s.2.1.2.1++[i]) λk v=>BODY X s i k v))) (o,(E.length,[],E.length),()):=by
 have hn:E.length=es.length:=by rw[hE,ae]
 refine AVT (λs=>∃ (seen:List Nat) (o2:List iII),s=(o++o2,(E.length,seen,E.length),())/\seen.Nodup/\(∀ i∈seen,i<es.length)/\(∀ s,s∈o2↔∃ i∈seen,∃ e,es[i]? = some e/\e.1=s/\P e=true)/\o2.length<=seen.length/\((es.map λe=>e.1).Nodup->o2.Nodup)/\seen.length+(cT E.length seen).length<=E.length) (λs=>(cT E.length s.2.1.2.1).length) ⟨[],[],by rw[List.append_nil],by simp,by simp,by simp,by simp,by simp,by rw[AO];simp⟩ ?_;rintro X s ⟨seen,o2,rfl,hnd,hlt,hm,hl,hon,hq⟩ hX;dsimp only;refine ⟨by simp,λhnil=>?_,λi hi=>⟨by simp,?_⟩⟩
 ·refine hexit o2 seen (λs=>?_) (by omega) hon;rw[hm];constructor
  ·rintro ⟨i,_,e,he,h1,h2⟩;exact ⟨e,List.mem_of_getElem? he,h1,h2⟩
  ·rintro ⟨e,he,h1,h2⟩;obtain ⟨i,hi,rfl⟩:=List.mem_iff_getElem.1 he;refine ⟨i,?_,_,List.getElem?_eq_getElem hi,h1,h2⟩;refine Classical.byContradiction λhc=>?_;have:i∈cT E.length seen:=nC.2 ⟨by omega,hc⟩;rw[hnil] at this;cases this
 ·have hi':=nC.1 hi;have hie:i<es.length:=by omega
  have hst:=wW hi;subst hE;have hnd2:(seen++[i]).Nodup:=by
   rw[List.nodup_append];exact ⟨hnd,by simp,λa ha b hb=>by simp at hb;subst hb;exact λe=>hi'.2 (e ▸ ha)⟩
  have hlt2:∀ j∈seen++[i],j<es.length:=λj hj=>by
   rcases List.mem_append.1 hj with h|h
   ·exact hlt j h
   ·simp at h;omega
  have hpos:=List.length_pos_of_mem hi;have hq2:(seen++[i]).length+(cT (List.map (b6 .str ag r) es).length (seen++[i])).length<=(List.map (b6 .str ag r) es).length:=by simp only[List.length_append,List.length_singleton];omega
  refine BHY hie _ (hbody X _ seen i hie (by rw[List.length_append];omega) (by omega) (λhP=>?_) λhP=>?_)
  ·refine hX _ ⟨seen++[i],o2++[es[i].1],by rw[List.append_assoc],hnd2,hlt2,λs=>?_,by simp;omega,?_,hq2⟩ hst
   case refine_2 =>
    intro hk;rw[List.nodup_append];refine ⟨hon hk,by simp,λx hx y hy e=>?_⟩;rw[List.mem_singleton.1 hy] at e;obtain ⟨j,hj,e',he',h1,_⟩:=(hm x).1 hx;obtain ⟨hjl,rfl⟩:=List.getElem?_eq_some_iff.1 he';have hne:j≠i:=λh=>hi'.2 (h ▸ hj);have h2:(es.map λe=>e.1)[j]'(by simpa using hjl)=(es.map λe=>e.1)[i]'(by simpa using hie):=by simp[h1,e]
    rcases Nat.lt_or_gt_of_ne hne with h|h
    ·exact List.pairwise_iff_getElem.1 hk _ _ _ _ h h2
    ·exact List.pairwise_iff_getElem.1 hk _ _ _ _ h h2.symm
   rw[List.mem_append,hm,List.mem_singleton];constructor
   ·rintro (⟨j,hj,h⟩|rfl)
    ·exact ⟨j,List.mem_append_left _ hj,h⟩
    ·exact ⟨i,by simp,_,List.getElem?_eq_getElem hie,rfl,hP⟩
   ·rintro ⟨j,hj,e,he,h1,h2⟩;rcases List.mem_append.1 hj with h|h
    ·exact .inl ⟨j,h,e,he,h1,h2⟩
    ·rw[List.mem_singleton.1 h,List.getElem?_eq_getElem hie] at he;cases he;exact .inr h1.symm
  ·refine hX _ ⟨seen++[i],o2,rfl,hnd2,hlt2,λs=>?_,by simp;omega,hon,hq2⟩ hst;rw[hm];constructor
   ·rintro ⟨j,hj,h⟩;exact ⟨j,List.mem_append_left _ hj,h⟩
   ·rintro ⟨j,hj,e,he,h1,h2⟩;rcases List.mem_append.1 hj with h|h
    ·exact ⟨j,h,e,he,h1,h2⟩
    ·rw[List.mem_singleton.1 h,List.getElem?_eq_getElem hie] at he;cases he;rw[hP] at h2;cases h2
def AAV {α:Type} {k:iII} {v:α}:∀ {es:List (iII×α)},k∈es.map (λe=>e.1)->(oF es k v).map (λe=>e.1)=es.map (λe=>e.1)
 | [],h=>by cases h
 | e::es,h=>by
  unfold oF;by_cases h1:e.1=k
  ·simp[h1]
  ·rw[if_neg h1,List.map_cons,AAV ((List.mem_cons.1 h).resolve_left λe'=>h1 e'.symm)];rfl
variable {α:Type}
def AGD {k:iII} {v:α} {es:List (iII×α)} (h:k∉es.map (λe=>e.1)):(oF es k v).map (λe=>e.1)=es.map (λe=>e.1)++[k]:=by
 rw[KV λe he h'=>h (List.mem_map.2 ⟨e,he,h'⟩),List.map_append];rfl
def AGB {k:iII}:∀ {es:List (iII×Bool)},(∀ e∈es,e.2=true)->∀ e∈oF es k true,e.2=true
 | [],_,e,h=>by rw[oF,List.mem_singleton] at h;rw[h]
 | a::es,hp,e,h=>by
  unfold oF at h;split at h
  ·rcases List.mem_cons.1 h with h|h
   ·rw[h]
   ·exact hp e (List.mem_cons_of_mem _ h)
  ·rcases List.mem_cons.1 h with h|h
   ·rw[h];exact hp a am
   ·exact AGB (λe he=>hp e (List.mem_cons_of_mem _ he)) e h
def xM (p:iII->Prop) (n:Nat) (es:List (iII×Bool)):Prop:=(es.map λe=>e.1).Nodup/\(∀ s,s∈es.map (λe=>e.1)↔p s)/\es.length<=n/\∀ e∈es,e.2=true
variable {es:List (iII×Bool)}
def xM.ins {p q:iII->Prop} {n:Nat} {k:iII} (h:xM p n es) (hq:∀ s,q s↔p s\/s=k):xM q (n+1) (oF es k true):=by
 refine ⟨?_,λs=>?_,?_,AGB h.2.2.2⟩
 ·by_cases hm:k∈es.map (λe=>e.1)
  ·rw[AAV hm];exact h.1
  ·rw[AGD hm,List.nodup_append];exact ⟨h.1,by simp,λa ha b hb e=>hm (by rw[List.mem_singleton.1 hb] at e;rw[<-e];exact ha)⟩
 ·rw[hq,<-h.2.1];by_cases hm:k∈es.map (λe=>e.1)
  ·rw[AAV hm];exact ⟨.inl,λh'=>h'.elim (λh=>h) λe=>by rw[e];exact hm⟩
  ·rw[AGD hm,List.mem_append,List.mem_singleton]
 ·have:=AGC (k:=k) (v:=true) (es:=es);have:=h.2.2.1;omega
def xM.mono {p q:iII->Prop} {n m:Nat} (h:xM p n es) (hq:∀ s,q s↔p s) (hm:n<=m):xM q m es:=⟨h.1,λs=>by rw[hq];exact h.2.1 s,Nat.le_trans h.2.2.1 hm,h.2.2.2⟩
def xM.get {p:iII->Prop} {n:Nat} (h:xM p n es) (s:iII):(fS es s=none/\¬ p s)\/(fS es s=some true/\p s):=by
 rcases rU s es with ⟨h1,h2⟩|⟨j,hj,h1,_,h3⟩
 ·refine .inl ⟨h1,λhp=>?_⟩;obtain ⟨e,he,h⟩:=List.mem_map.1 ((h.2.1 s).2 hp);exact h2 e he h
 ·refine .inr ⟨by rw[h3,h.2.2.2 _ (ak hj)],(h.2.1 s).1 (List.mem_map.2 ⟨_,ak hj,h1⟩)⟩
abbrev AH6 (gt:List T->Option T) (l:List aV) (EXIT:Int×List (iII×Bool)×PUnit->Prop):Prop :=
 cV Sy.str false Sy.bool [] λy0=>bB (Int×List (iII×Bool)×PUnit) (λX1 s2=>aC (decide (s2.1<(↑(List.map aM.enc l).length:Int)))
  (aR aM (List.map aM.enc l) s2.1 λy3=>aJ [(false,Sy.str.li)] (gt [aG true aM y3]) λ(y4:List iII) =>
   cV Sy.str false Sy.bool (List.map (b6 Sy.str false Sy.bool) s2.2.1) λy5 =>
    bB (Int×List (iII×Bool)×PUnit) (λX6 s7=>aC (decide (s7.1<(↑(List.map Sy.str.enc y4).length:Int)))
     (aR Sy.str (List.map Sy.str.enc y4) s7.1 λy8=>eT (Option (Nat×D)) (findD TypeDesc.string (Value.string y8) (List.map (b6 Sy.str false Sy.bool) s7.2.1) 0) λy9 =>
      cV Sy.str false Sy.bool (eP (List.map (b6 Sy.str false Sy.bool) s7.2.1) y9 (Value.string y8) (D.p (pPR true))) λy10=>X6 (i64.wrap (s7.1+1),y10,()))
     (cV Sy.str false Sy.bool (List.map (b6 Sy.str false Sy.bool) s7.2.1) λy11=>X1 (i64.wrap (s2.1+1),y11,()))) (0,y5,()))
  (EXIT s2)) (0,y0,())
variable {gt:List T->Option T}{M:Nat}
def AN2 {tf:aV->List iII} {l:List aV} (hM:M<=3000000) (hNm:∀ e∈l,(tf e).length<=M) (hok:∀ e∈l,gt [aG true aM e]=some (Sh.enc [(false,Sy.str.li)] (tf e))) (hl:l.length<=100000) {EXIT:Int×List (iII×Bool)×PUnit->Prop}
  (hE:∀ i es,xM (λs=>∃ e∈l,s∈tf e) (l.length*M) es->EXIT (i,es,())):AH6 gt l EXIT:=by
 refine kJ (r:=.bool) rfl [] _ ?_;refine bM l.length (λk s=>s.1=(k:Int)/\xM (λs=>∃ e∈l.take k,s∈tf e) (k*M) s.2.1) ⟨rfl,List.Pairwise.nil,λs=>Iff.intro (λh=>by cases h) (λh=>by obtain ⟨e,he,_⟩:=h;rw[List.take_zero] at he;cases he),Nat.zero_le _,λe he=>by cases he⟩ ?_;rintro X k ⟨i,es,u⟩ hk ⟨rfl,hs⟩ hX;dsimp only at hs ⊢;rw[ae];refine cA (λhlt=>?_) λhge=>?_
 ·have hlt:k<l.length:=by omega
  rw[bE (r:=aM) hlt];have hw:∀ {j:Nat},j<=3000000->i64.wrap ((j:Int)+1)=((j+1:Nat):Int):=λh=>bG _ (by omega) (by omega);refine aF (s:=[(false,Sy.str.li)]) (y:=tf l[k]) (hok _ (ak hlt)) ?_;refine kJ (r:=.bool) rfl _ _ ?_;have hN:(tf l[k]).length<=M:=hNm _ (ak hlt);generalize hB:tf l[k]=B at hN ⊢;refine bM B.length (λj s=>s.1=(j:Int)/\xM (λs=>(∃ e∈l.take k,s∈tf e)\/s∈B.take j) (k*M+j) s.2.1) ⟨rfl,hs.mono (λs=>by simp) (by omega)⟩ ?_;rintro Y j ⟨i,es2,u⟩ hj ⟨rfl,hs2⟩ hY;dsimp only at hs2 ⊢;rw[ae];refine cA (λhlt2=>?_) λhge2=>?_
  ·have hlt2:j<B.length:=by omega
   rw[bE (r:=.str) hlt2];refine APX (r:=.bool) rfl ?_;refine hY _ hlt2 ⟨hw (by omega),hs2.ins λs=>?_⟩;rw[List.take_succ_eq_append_getElem hlt2,List.mem_append,List.mem_singleton,or_assoc]
  ·have:j=B.length:=by omega
   subst this;refine kJ (r:=.bool) rfl _ _ ?_;refine hX _ hlt ⟨hw (by omega),hs2.mono (λs=>?_) (by rw[Nat.succ_mul];omega)⟩;show (∃ e,e∈l.take (k+1)/\s∈tf e)↔(∃ e,e∈l.take k/\s∈tf e)\/s∈B.take B.length;rw[List.take_length,List.take_succ_eq_append_getElem hlt];constructor
   ·rintro ⟨e,he,h⟩;rcases List.mem_append.1 he with he|he
    ·exact .inl ⟨e,he,h⟩
    ·rw[List.mem_singleton.1 he,hB] at h;exact .inr h
   ·rintro (⟨e,he,h⟩|h)
    ·exact ⟨e,List.mem_append_left _ he,h⟩
    ·exact ⟨l[k],List.mem_append_right _ (List.mem_singleton.2 rfl),by rw[hB];exact h⟩
 ·have:k=l.length:=by omega
  subst this;rw[List.take_length] at hs;exact hE _ _ hs
end Go.Pv
namespace Go.Pv
open Go Go.Proofs IntKind
def oC (l:List UInt8):iII:=⟨l.toArray⟩
def BPU:a8:=(oC [],0,0,oC [],oC [],0,([],[]),oC [],0,0,(0,0,0),(0,0,0),0)
def BHU (k:Int) (a b:iII):aV:=(k,a,b,(oC [],0,oC []),BPU,(oC [],oC [],oC [],0,0,0),(oC [],oC [],[],0,[]),(0,oC [],oC []))
def VT (n:Nat):aV:=match n with
 | 0=>BHU 6 (oC [80,49]) (oC [65,49])
 | 1=>BHU 2 (oC [65,50]) (oC [])
 | _=>BHU 4 (oC [80,49]) (oC [])
def o20:cN:=(oC [67,49],[VT 0,VT 1])
def c20:cN:=(oC [],[VT 2])
def t20:List UInt8:=[64,0,64,64,0,0,64,64,0,128,128,64,0,0,0,0,0,0,0,0,0,64,64,64,0,0,0,64,64,128,0,128,0,64,64]
def b20 (n:Nat):iII:=match n with
 | 0=>oC ([6,66,80,49,66,65,49]++t20)
 | _=>oC ([2,66,65,50,64]++t20)
def NC:FuncId->Bool:=λf=>[60,71,113,245,111,110].contains f
def LC:Env:=Env.of [(7000000000+92,.mark)]
def vE:aU Tryz.prog LC:=aU.cons (x:=.mark) trivial (aU.nil _)
noncomputable def BI7:List T->Option T:=TB Tryz.prog 400 NC LC 40 38
def BDD:aP Tryz.prog 38 BI7:=mS aY a6 400 NC vE 40 (oS (k:=39) (fn:=_) (c:=_) (by kernel_rfl) Tryz.func38 rfl (by kernel_rfl))
noncomputable def BN8:List T->Option T:=TB Tryz.prog 400 NC LC 40 36
def BDF:aP Tryz.prog 36 BN8:=mS aY a6 400 NC vE 40 (oS (k:=39) (fn:=_) (c:=_) (by kernel_rfl) Tryz.func36 rfl (by kernel_rfl))
noncomputable def BN6:List T->Option T:=TB Tryz.prog 400 NC LC 40 37
def BDE:aP Tryz.prog 37 BN6:=mS aY a6 400 NC vE 40 (oS (k:=39) (fn:=_) (c:=_) (by kernel_rfl) Tryz.func37 rfl (by kernel_rfl))
noncomputable def A4G:List T->Option T:=TB Tryz.prog 400 NC LC 40 70
def BDG:aP Tryz.prog 70 A4G:=mS aY a6 400 NC vE 40 (oS (k:=39) (fn:=_) (c:=_) (by kernel_rfl) Tryz.func70 rfl (by kernel_rfl))
def BHW:BI7 [aG true aM (VT 0)]=some (.v (.string (b20 0))):=by kernel_rfl
def BHX:BI7 [aG true aM (VT 1)]=some (.v (.string (b20 1))):=by kernel_rfl
def BPW:BN8 [.v (.string (oC [67,49]))]=some (.v (.string (oC [66,67,49]))):=by kernel_rfl
def BPS:BN6 [.v (.int .i64 2)]=some (.v (.string (oC [130]))):=by kernel_rfl
def BNT (x:aV):iII:=if x.1=6 then b20 0 else b20 1
noncomputable def r20:iII:=(oC [66,67,49]++oC [130])++uL BNT o20.2
def w20:iII:=oC ([66,67,49,130,6,66,80,49,66,65,49]++t20++[2,66,65,50,64]++t20)
def BO1:r20=w20:=by kernel_rfl
noncomputable def BI6:List T->Option T:=gD (G2 [([aG true b9 o20],.v (.string w20))])
def BDB:aP Tryz.prog 12 BI6:=(BC6 BDD BDF BDE BNT (oC [66,67,49]) (oC [130]) o20 BPW BPS (λx hx=>by
  simp only[o20,List.mem_cons,List.not_mem_nil,or_false] at hx;rcases hx with rfl|rfl
  ·exact BHW
  ·exact BHX) (by show r20.size<=_;rw[BO1];decide +kernel) (by decide) (g:=G2 [([aG true b9 o20],.v (.string w20))]) λargs r h=>by
  cases List.mem_singleton.1 (BR h);exact ⟨rfl,by rw[<-BO1];rfl⟩).deep
def APT:FuncId->Bool:=λf=>[29,73,74,75,52,30,31,57,33,32,54,56,53,55,76,77,78].contains f
noncomputable def BN7:List T->Option T:=A8O Tryz.prog 400 APT LC 40 32
def i20:T:=.v (.int .i64 0)
def x20:iII:=oC ([6,66,80,49,66,65,49]++t20++[2,66,65,50,64]++t20)
def BLE:BN7 [.agg [.v (.string x20),i20]]=some (.cE [.agg [.v (.string (b20 1)),i20],aG true aM (VT 0)]):=by kernel_rfl
def BLF:BN7 [.agg [.v (.string (b20 1)),i20]]=some (.cE [.agg [.v (.string (oC [])),i20],aG true aM (VT 1)]):=by kernel_rfl
noncomputable def BI8:List T->Option T:=G2 [([.agg [.v (.string x20),i20]],.cE [.agg [.v (.string (b20 1)),i20],aG true aM (VT 0)]),([.agg [.v (.string (b20 1)),i20]],.cE [.agg [.v (.string (oC [])),i20],aG true aM (VT 1)])]
def BDH:cI Tryz.prog 32 (xP BI8):=AEZ (AMU aY a6 400 APT vE 40 Tryz.func32 rfl) λargs r h=>by
 rcases List.mem_cons.1 (BR h) with h|h
 ·cases h;exact BLE
 ·cases List.mem_singleton.1 h;exact BLF
noncomputable def A57:Env:=Env.of [(32,.AVX BI8)]
def AVO:aU Tryz.prog A57:=aU.cons (x:=.AVX BI8) BDH (aU.nil _)
noncomputable def BN5:List T->Option T:=TB Tryz.prog 400 APT A57 40 10
def BDC:aP Tryz.prog 10 BN5:=mS aY a6 400 APT AVO 40 (oS (k:=39) (fn:=_) (c:=_) (by kernel_rfl) Tryz.func10 rfl (by kernel_rfl))
def BPM:BN5 [.v (.string w20)]=some (.cE [aG true b9 o20,.v (.int .i64 0)]):=by kernel_rfl
noncomputable def BI5:List T->Option T:=G2 [([.v (.string w20)],.cE [aG true b9 o20,.v (.int .i64 0)])]
def BDA:aP Tryz.prog 10 BI5:=KH BDC λx hx=>by
 cases List.mem_singleton.1 hx;exact BPM
noncomputable def KR:List T->Option T:=A4G
def BDM:aP Tryz.prog 70 KR:=BDG
def AOW (x:aV):List iII:=if x.1=6 then [oC [65,49],oC [80,49]] else if x.1=2 then [oC [65,50]] else [oC [80,49]]
def BLO:A4G [aG true aM (VT 0)]=some (Sh.enc [(false,Sy.str.li)] (AOW (VT 0))):=by kernel_rfl
def BLP:A4G [aG true aM (VT 1)]=some (Sh.enc [(false,Sy.str.li)] (AOW (VT 1))):=by kernel_rfl
def BLQ:A4G [aG true aM (VT 2)]=some (Sh.enc [(false,Sy.str.li)] (AOW (VT 2))):=by kernel_rfl
def HC:List (List T)->Option (List (List T)):=rS
def AMA (l:List iII) (K:List (List T)->Prop):eT (List (List T)) (HC (List.map Sy.str.enc l)) K=K (List.map Sy.str.enc (lV eQ l)):=zL l K
def A4A:cI Tryz.prog 71 (yU 1 HC):=KE
noncomputable def BGV:Env:=Env.of [(70,.pure KR),(71,.perm 1 HC)]
def BHB:FuncId->Hint:=λf=>match f == 46 with|true=>⟨AP5 [(3,.alt [.val 12 false (.int .i64),.map 7 .str false .bool] [.val 12 false (.int .i64),.map 3 .str false .bool]),(6,.alt [.val 19 false (.int .i64),.map 7 .str false .bool] [.val 19 false (.int .i64),.map 3 .str false .bool])],λ_ _=>none,λ_=>none⟩|false=>match f == 47 with|true=>⟨λr=>match r == 3 with|true=>.inv [.own 5 1 .str,.nW 8 (some 7)]|false=>.none,λ_ _=>none,λr=>match r == 4 with|true=>some (.str,false,.bool)|false=>none⟩|false=>bA
def AZI:aU Tryz.prog BGV:=.cons BDM (.cons A4A (.nil _))
def AJW(a0:cN)(a1:cN)(R:T->Prop):Prop:=cV Sy.str false Sy.bool [] λ(y0:List (iII×Bool))=>bB (Int×List (iII×Bool)×PUnit) (λX1 s2=>aC (decide (s2.1<(↑(BTV a1).length:Int))) (aR aM (BTV a1) s2.1 λ(y3:aV)=>aJ BST (KR [aG true aM y3]) λ(y4:List iII)=>cV Sy.str false Sy.bool (List.map (b6 Sy.str false Sy.bool) s2.2.1) λ(y5:List (iII×Bool))=>bB (Int×List (iII×Bool)×PUnit) (λX6 s7=>aC (decide (s7.1<(↑(BS3 y4).length:Int))) (aR Sy.str (BS3 y4) s7.1 λ(y8:iII)=>eT (Option (Nat×D)) (findD TypeDesc.string (Value.string y8) (List.map (b6 Sy.str false Sy.bool) s7.2.1) 0) λ(y9:Option (Nat×D))=>cV Sy.str false Sy.bool (eP (List.map (b6 Sy.str false Sy.bool) s7.2.1) y9 (Value.string y8) (D.p (pPR true))) λ(y10:List (iII×Bool))=>X6 (i64.wrap (s7.1+1),y10,())) (cV Sy.str false Sy.bool (List.map (b6 Sy.str false Sy.bool) s7.2.1) λ(y11:List (iII×Bool))=>X1 (i64.wrap (s2.1+1),y11,()))) (0,y5,())) (cV Sy.str false Sy.bool [] λ(y12:List (iII×Bool))=>bB (Int×List (iII×Bool)×PUnit) (λX13 s14=>aC (decide (s14.1<(↑(BTV a0).length:Int))) (aR aM (BTV a0) s14.1 λ(y15:aV)=>aJ BST (KR [aG true aM y15]) λ(y16:List iII)=>cV Sy.str false Sy.bool (List.map (b6 Sy.str false Sy.bool) s14.2.1) λ(y17:List (iII×Bool))=>bB (Int×List (iII×Bool)×PUnit) (λX18 s19=>aC (decide (s19.1<(↑(BS3 y16).length:Int))) (aR Sy.str (BS3 y16) s19.1 λ(y20:iII)=>eT (Option (Nat×D)) (findD TypeDesc.string (Value.string y20) (List.map (b6 Sy.str false Sy.bool) s19.2.1) 0) λ(y21:Option (Nat×D))=>cV Sy.str false Sy.bool (eP (List.map (b6 Sy.str false Sy.bool) s19.2.1) y21 (Value.string y20) (D.p (pPR true))) λ(y22:List (iII×Bool))=>X18 (i64.wrap (s19.1+1),y22,())) (cV Sy.str false Sy.bool (List.map (b6 Sy.str false Sy.bool) s19.2.1) λ(y23:List (iII×Bool))=>X13 (i64.wrap (s14.1+1),y23,()))) (0,y17,())) (bB (List iII×(Nat×List Nat×Nat)×PUnit) (λX24 s25=>bL (decide ((List.map (b6 Sy.str false Sy.bool) s14.2.1).length <= s25.2.1.1) && decide (s25.2.1.1<=s25.2.1.2.2)) (sQ (List.map (b6 Sy.str false Sy.bool) s14.2.1).length s25.2.1.2.1 (eT (List (List T)) (HC (List.map Sy.str.enc s25.1)) λ(y26:List (List T))=>R (T.sl false y26)) λ(i27:Nat)=>bL (decide ((List.map (b6 Sy.str false Sy.bool) s14.2.1).length = (List.map (b6 Sy.str false Sy.bool) s14.2.1).length)) (CU Sy.str false Sy.bool (List.map (b6 Sy.str false Sy.bool) s14.2.1) (s25.2.1.2.1++[i27]) λ(k28:iII) (y29:Bool)=>iF TypeDesc.string (Value.string k28) (List.map (b6 Sy.str false Sy.bool) s2.2.1) false Sy.bool (dP Sy.str (List.map Sy.str.enc s25.1) λ(y34:List iII)=>X24 (y34, (s25.2.1.1,s25.2.1.2.1++[i27], (List.map (b6 Sy.str false Sy.bool) s14.2.1).length), ())) λ(i30:Nat) (y31:Bool)=>aC y31 (bL (decide (((List.map Sy.str.enc s25.1).length+1)*16<=140737488355328) && decide ((List.map Sy.str.enc s25.1).length+1<=140737488355328)) (dP Sy.str (List.map Sy.str.enc s25.1++(BT8 k28)) λ(y32:List iII)=>X24 (y32, (s25.2.1.1,s25.2.1.2.1++[i27], (List.map (b6 Sy.str false Sy.bool) s14.2.1).length), ()))) (dP Sy.str (List.map Sy.str.enc s25.1) λ(y33:List iII)=>X24 (y33, (s25.2.1.1,s25.2.1.2.1++[i27], (List.map (b6 Sy.str false Sy.bool) s14.2.1).length), ()))))) ([], ((List.map (b6 Sy.str false Sy.bool) s14.2.1).length,[], (List.map (b6 Sy.str false Sy.bool) s14.2.1).length), ()))) (0,y12,()))) (0,y0,())
abbrev ANR:Sh:=[(true,b9),(true,b9)]
def p20:iII:=oC [80,49]
noncomputable def B8 (x:cN×cN):Option T:=match lX x.1 o20&&lX x.2 c20 with
 | true=>some (T.sl false (List.map Sy.str.enc [p20]))
 | false=>none
noncomputable def ALX:List T->Option T:=gS ANR B8
def AU4 {a0 a1}:ALX [aG true b9 a0,aG true b9 a1]=B8 (a0,a1):=bH (s:=ANR) rfl (a0,a1) rfl
def BEP:qU Tryz.prog 18 ALX B8 (cG ANR) AJW:=gV (a1:=(true,b9)) (a2:=(true,b9)) (sp:=B8) (F:=AJW) (Hs:=BHB) (f:=18) (k:=10) AZI aY a6 (aO rfl) ⟨_,_,Tryz.func18,rfl⟩ rfl λ_ _ _=>by kernel_rfl
variable {α:Type}
def BE6 {a:α}:∀ {l:List α},l.Nodup->(∀ s,s∈l↔s=a)->l=[a]
 | [],_,h=>by have:=(h a).2 rfl;cases this
 | [b],_,h=>by rw[(h b).1 am]
 | b::c::l,hn,h=>by
  have h1:=(h b).1 am;have h2:=(h c).1 (List.mem_cons_of_mem _ am);exact absurd (List.mem_cons.2 (.inl (h1.trans h2.symm))) (List.pairwise_cons.1 hn |>.1 b |> λf hm=>(List.nodup_cons.1 hn).1 hm)
def BC2:aP Tryz.prog 18 ALX:=BEP λa b r h hb=>by
 clear hb;unfold B8 at h;split at h
 case h_2=>cases h
 rename_i hc;cases h;rw[ac] at hc;obtain rfl:a=o20:=dW.1 hc.1;obtain rfl:b=c20:=dW.1 hc.2;clear hc;unfold AJW BTV BT8 BS3 BST;have oc:∀ e∈c20.2,e=VT 2:=λe he=>List.mem_singleton.1 he;have oo:∀ e∈o20.2,e=VT 0\/e=VT 1:=λe he=>by
  rcases List.mem_cons.1 he with h|h
  ·exact .inl h
  ·exact .inr (List.mem_singleton.1 h)
 refine AN2 (gt:=KR) (tf:=AOW) (M:=2) (l:=c20.2) (by omega) (λe he=>by rw[oc e he];decide) (λe he=>by rw[oc e he];exact BLQ) (by decide) λ_ eb sb=>?_;refine AN2 (gt:=KR) (tf:=AOW) (M:=2) (l:=o20.2) (by omega) (λe he=>by rcases oo e he with h|h<;>rw[h]<;>decide) (λe he=>by
  rcases oo e he with h|h
  ·rw[h];exact BLO
  ·rw[h];exact BLP) (by decide) λ_ es hs=>?_
 have hz:es.length<=4:=hs.2.2.1;have sb1:∀ s,(∃ e∈c20.2,s∈AOW e)↔s=p20:=λs=>⟨λ⟨e,he,h⟩=>by rw[oc e he] at h;exact List.mem_singleton.1 h,λh=>⟨VT 2,List.mem_singleton.2 rfl,by rw[h];exact List.mem_singleton.2 rfl⟩⟩
 have hs1:∃ e∈o20.2,p20∈AOW e:=⟨VT 0,am,List.mem_cons_of_mem _ am⟩
 refine AQW (ag:=false) (r:=.bool) rfl (λe=>(fS eb e.1).isSome) (λX out seen i hi h1 h2 hy hn=>?_) λo2 seen hm hl2 hnd=>?_
 ·have h1:out.length<=0+seen.length:=h1;have h2:seen.length<es.length:=h2;dsimp only;refine wE (r:=.bool) (λhg=>?_) λj v hg=>?_
  ·rw[dJ (r:=.str) rfl];exact hn (by dsimp only;rw[hg];rfl)
  ·rcases sb.get es[i].1 with ⟨h,_⟩|⟨h,_⟩
   ·rw[h] at hg;cases hg
   ·rw[h] at hg;cases hg;rw[j8,ZU (by omega),GK];exact hy (by dsimp only;rw[h];rfl)
 ·show eT (List (List T)) (HC (List.map Sy.str.enc ([]++o2))) _;rw[List.nil_append,AMA];have e:o2=[p20]:=BE6 (hnd hs.1) λs=>by
   rw[hm,<-sb1];constructor
   ·rintro ⟨e,he,rfl,h⟩;rcases sb.get e.1 with ⟨h',_⟩|⟨_,h'⟩
    ·rw[h'] at h;cases h
    ·exact h'
   ·intro h;have hp:=(sb1 s).1 h;obtain ⟨e,he,h1⟩:=List.mem_map.1 ((hs.2.1 s).2 (by rw[hp];exact hs1));refine ⟨e,he,h1,?_⟩;rcases sb.get s with ⟨_,h'⟩|⟨h',_⟩
    ·exact absurd h h'
    ·rw[h1,h'];rfl
  rw[e,show lV eQ [p20]=[p20] by unfold lV eQ;simp[iX]]
noncomputable def BI4:List T->Option T:=gD (G2 [([aG true b9 o20,aG true b9 c20],.sl false [[.v (.string p20)]])])
def BC9:aP Tryz.prog 18 BI4:=(KH BC2 λx hx=>by
 cases List.mem_singleton.1 hx;rw[AU4];unfold B8;rw[dW.2 rfl,dW.2 rfl];rfl).deep
end Go.Pv
