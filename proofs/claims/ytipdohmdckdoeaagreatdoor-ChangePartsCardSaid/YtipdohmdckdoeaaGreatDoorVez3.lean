/-
  edit.Apply, kind by kind.
  edit.Apply, the kinds 5 and 6 (the copied parts are turned in place).
  shipyardref16.Few, shipyardref19.Few.
  edit.Apply with a kind that there is not; edit.Apply.
  Designs that an edit makes are not too large.
  Change orders, plain: an order has the effect of its beginning followed by the rest.
  change.Apply: an order, edit by edit.
  VersionChanges, plain: maps of first elements, what differs; the least behind the last.
  slices.Sort, Compact, DeleteFunc, Grow at strings.
  edit.Touches.
  Ascending lists of strings, each once (plain).
  VersionChanges, plain: what two designs differ in, ascending.
  shipyardref19.Touches.
  shipyardref19.Touches.
  ChangeTouches, plain: what orders name.
  shipyardref20.with, Touched, Conflicts, Few.
  Functions given by a table of arguments and results.
  Chapter 20's examples: the calls of edit.Apply, each run for itself. (The table is printed by tools/tab20.py.)
  strings.Builder: WriteString and String, by the library's contracts.
  change.Encode: the round's body: an edit is read, encoded, written.
  change.Encode.
  The bytes of numbers, texts and lists (plain).
  cbor.Int, Text, List; the same of the reference.
  shipyardref05.Int, Text, List.
  The encoding of lists, contours, parts and edits.
  change.Encode, the contract.
  VersionChanges: maps of records keyed by strings, and ranges over them.
  Sets of names as maps, and ranges over them.
  Chapter 20's examples: what Encode and Conflicts answer there (what they call is run for itself).
  The examples of chapter 20, run by the kernel.
  What the laws about a design and an order share.
  Edits of different elements do not touch each other (plain).
  Two accepted edits that name nothing in common lead to one design in both sequences (plain).
  Edits that name nothing in common (plain).
  Change orders, plain: what becomes of parts.
  EditOne (plain): what was added to a valid design can be removed from it again, and that leads back.
  Change orders that name nothing in common lead to one design in both sequences (plain).
  ChangeParts: what the law comes to.
-/
import Derived.Test.YtipdohmdckdoeaaGreatDoorVez2
import Derived.Test.YtipdohmdckdoeaaGreatDoorVez1
import Derived.Test.YtipdohmdckdoeaaGreatDoorVekn
import Derived.Test.YtipdohmdckdoeaaGreatDoorVekq
import Derived.Test.YtipdohmdckdoeaaGreatDoorVekr
import Derived.Test.YtipdohmdckdoeaaGreatDoorVelv
import Derived.KernelRfl
import Derived.Sort.Walk0
import Derived.Test.YtipdohmdckdoeaaGreatDoorVegs
import Derived.Test.YtipdohmdckdoeaaGreatDoorVecb
import Derived.Shelf.Strings.Builder1
import Derived.Shelf.Strings.BuilderF
import Derived.Shelf.Strings.MapGrows
import Derived.Test.YtipdohmdckdoeaaGreatDoorVekh
import Derived.WalkKit
import Derived.BigCall
import Derived.Deep.RegionWith
import Derived.Deep.LoopGhost
import Derived.Laws.BytesArg
import Derived.Test.YtipdohmdckdoeaaGreatDoorVekp
import Derived.Test.YtipdohmdckdoeaaGreatDoorVekw
import Derived.Test.YtipdohmdckdoeaaGreatDoorVekj
set_option linter.defProp false
set_option linter.unusedSimpArgs false
set_option linter.unusedVariables false
set_option maxRecDepth 100000
namespace Go.Pv
open Go Go.Proofs IntKind
def okX (d:aB) (x:aX):Bool:=vG d&&(fL (cI x)&&eT (iQ x))
def lL {d:aB} {x:aX} (h:okX d x=true):vG d=true/\fL (cI x)=true/\eT (iQ x)=true:=by
 unfold okX at h;rw[ac,ac] at h;exact h
def lI (k:Int) (x y:oZ) (h:([aG true aD x.1,aG true aM x.2.1,aG true aN (k,x.2.2)]:List T)=[aG true aD y.1,aG true aM y.2.1,aG true aN (k,y.2.2)]):x=y:=by
 simp only[List.cons.injEq,and_true] at h;obtain ⟨h1,h2,h3⟩:=h;exact Prod.ext (mN (r:=aD) rfl h1) (Prod.ext (mN (r:=aM) rfl h2) (Prod.mk.inj (mN (r:=aN) rfl h3)).2)
def dP {c:Bool} {a:T}:c=true->(match c with|true=>some a|false=>none)=some a:=λh=>by rw[h]
variable {α:Type}
def gQ (no:α) (o:Option α):(found no o).2=o.isSome:=by cases o<;>rfl
variable {m:aI}
def lJ {d:aB} {x:aX} (hk:1<=x.1/\x.1<=12) (h:nJ x (bU x)=false):bJ d m x=(qY,2):=by
 unfold bJ;rw[if_neg (λh=>h hk),if_pos (.inl h)]
def sU {d:aB} {x:aX} (hk:1<=x.1/\x.1<=12) (h5:¬ x.1=5) (h:nJ x (bU x)=true) (ha:kL x=true) (ht:dQ d x=true):bJ d m x=(qY,7):=by
 unfold bJ;rw[if_neg (λh=>h hk),if_neg (λe=>e.elim (λe=>by rw[h] at e;cases e) λe=>h5 e.1),if_pos ⟨ha,ht⟩]
def sS {d:aB} {x:aX} (hk:1<=x.1/\x.1<=12) (h5:¬ x.1=5) (h:nJ x (bU x)=true) (ha:kL x=false) (ht:dQ d x=false):bJ d m x=(qY,8):=by
 unfold bJ;rw[if_neg (λh=>h hk),if_neg (λe=>e.elim (λe=>by rw[h] at e;cases e) λe=>h5 e.1),if_neg (λe=>by rw[ha] at e;cases e.1),if_pos ⟨ha,ht⟩]
def CY {d:aB} {x:aX} (hk:1<=x.1/\x.1<=12) (h5:¬ x.1=5) (h:nJ x (bU x)=true) (ha:dQ d x = !kL x) (hu:kQ d x=true):bJ d m x=(qY,34):=by
 unfold bJ;rw[if_neg (λh=>h hk),if_neg (λe=>e.elim (λe=>by rw[h] at e;cases e) λe=>h5 e.1),if_neg (λe=>by rw[ha,e.1] at e;cases e.2),if_neg (λe=>by rw[ha,e.1] at e;cases e.2),if_neg (λe=>h5 e.1),if_pos hu]
def eW {d:aB} {x:aX} (hk:1<=x.1/\x.1<=12) (h5:¬ x.1=5) (h:nJ x (bU x)=true) (ha:dQ d x = !kL x) (hu:kQ d x=false):bJ d m x=if iP (mI d x) m=0 then (mI d x,0) else (qY,iP (mI d x) m):=by
 unfold bJ;rw[if_neg (λh=>h hk),if_neg (λe=>e.elim (λe=>by rw[h] at e;cases e) λe=>h5 e.1),if_neg (λe=>by rw[ha,e.1] at e;cases e.2),if_neg (λe=>by rw[ha,e.1] at e;cases e.2),if_neg (λe=>h5 e.1),if_neg (by rw[hu];decide)]
def KE (a0:aB) (a1:aI) (a2:iII×iII×bQ×a8×bT×aQ×bM):List T:=[aG true aD a0,aG true aM a1,aG true aN (1,a2)]
noncomputable def AR7:Env:=Env.of [(93,.pure cE),(147,.pure R4),(149,.pure B7),(69,.pure fG),(150,.pure RQ),(65,.pure cT)]
def A8Z:FuncId->Hint:=λ_=>bA
def A3W:aV Tryz.prog AR7:=.cons jE (.cons BB7 (.cons AJ9 (.cons oD (.cons BBR (.cons j8 (.nil _))))))
def BL8:List T:=[pPQ ({data:=#[]}),T.sl false [],T.sl false [], T.sl false [],T.sl false [],T.sl false []]
def BMA:Sh:=[(false,Sy.int IntKind.i64)]
def BMB:Sh:=[(false,Sy.bool)]
def BMC:List T:=[T.agg BL8, pPP 2]
def BMI:List T:=[T.agg BL8, pPP 7]
def BMP(y4:aB)(a1:aI)(R:T->Prop):Prop:=aJ BMA (cT [aG true aD y4,aG true aM a1]) λ(y5:Int)=>aC (!decide (y5=0)) (R (T.b7 [T.agg BL8, pPP y5])) (R (T.b7 [aG true aD y4,pPP 0]))
def ATY(a0:aB)(a1:aI)(a2:iII×iII×bQ×a8×bT×aQ×bM)(R:T->Prop):Prop:=aJ [(true,aN)] (R4 [(aG true aN (1,a2))]) λ(y0:aX)=>aJ BMB (cE [(aG true aN (1,a2)), aG true aN y0]) λ(y1:Bool)=>aC (!y1) (R (T.b7 BMC)) (aJ [(true,bC),(false,Sy.bool)] (B7 [aG true aD a0,pPQ a2.2.2.1.1]) λ(y2:bQ×Bool)=>aC y2.2 (R (T.b7 BMI)) (aJ [(true,aD)] (fG [aG true aD a0]) λ(y3:aB)=>aJ [(true,aD)] (RQ [aG true aD y3, (aG true aN (1,a2))]) λ(y4:aB)=>BMP y4 a1 R))
def ATZ ( a0 a1 a2 R):eG bY Tryz.prog AR7 A8Z 8 66 (KE a0 a1 a2) R=ATY a0 a1 a2 R:=by kernel_rfl
noncomputable def AIR (x:oZ):Option T:=match okX x.1 (1,x.2.2) with
 | true=>some (Sh.enc [(true,aD),(false,.int .i64)] (bJ x.1 x.2.1 (1,x.2.2)))
 | false=>none
def ALP (x y:oZ) (h:KE x.1 x.2.1 x.2.2=KE y.1 y.2.1 y.2.2):x=y:=lI 1 x y h
noncomputable def AYB:List T->Option (T):=gA (λ(x:aB×aI×iII×iII×bQ×a8×bT×aQ×bM)=>KE x.1 x.2.1 x.2.2) AIR
def AYC (a0:aB) (a1:aI) (a2:iII×iII×bQ×a8×bT×aQ×bM):AYB (KE a0 a1 a2)=AIR (a0,a1,a2):=fN (A:=(λ(x:aB×aI×iII×iII×bQ×a8×bT×aQ×bM)=>KE x.1 x.2.1 x.2.2)) ALP (a0,a1,a2)
def BDO (h:∀ (a0:aB) (a1:aI) (a2:iII×iII×bQ×a8×bT×aQ×bM) (r:T),AIR (a0,a1,a2)=some r->(∀ t∈KE a0 a1 a2,Bd t)->ATY a0 a1 a2 (λy=>y=r)):aP Tryz.prog 66 AYB :=
 cQ (E:=AR7) (Hs:=A8Z) A3W aY a7 (aO rfl) 8 ⟨_,_,Tryz.func66,rfl⟩ λx r h1 h2=>by
  rw[ATZ];exact h x.1 x.2.1 x.2.2 r h1 h2
def AXS:aP Tryz.prog 66 AYB:=BDO λd m x r h hb=>by
 clear hb;obtain ⟨hp,rfl⟩:=j0 h;clear h;obtain ⟨hc,ho1,ho2⟩:=lL hp;have c:=dZ hc;have is:∀ {a:aB×Int},bJ d m (1,x)=a->Sh.enc [(true,aD),(false,.int .i64)] a=Sh.enc [(true,aD),(false,.int .i64)] (bJ d m (1,x)):=λh=>by rw[h]
 have hk:(1:Int)<=((1,x):aX).1/\((1,x):aX).1<=12:=by dsimp only;omega
 have h5:¬ ((1,x):aX).1=5:=by dsimp only;omega
 have lift:∀ {a:aB×Int},bJ d m (1,x)=a->∀ v,v=Sh.enc [(true,aD),(false,.int .i64)] a->v=Sh.enc [(true,aD),(false,.int .i64)] (bJ d m (1,x)):=λh v hv=>by rw[h];exact hv
 unfold ATY BMP BMI BMC BMB BMA BL8;have z1:R4 [aG true aN (1,x)]=some (Sh.enc [(true,aN)] (bU (1,x))):=(AY6 ..).trans rfl;refine aF (s:=[(true,aN)]) (y:=bU (1,x)) z1 ?_;have z2:cE [aG true aN (1,x),aG true aN (bU (1,x))]=some (Sh.enc kO (nJ (1,x) (bU (1,x)))):=fH ..;refine aF (s:=kO) (y:=nJ (1,x) (bU (1,x))) z2 ?_;refine fK (λh=>lift (lJ hk h) _ rfl) λhE=>?_;refine aF (s:=[(true,bC),(false,.bool)]) (y:=found iB (iD d (sX (1,x)).1)) (R0 ..) ?_;have ht:dQ d (1,x)=(found iB (iD d (sX (1,x)).1)).2:=(gQ ..).symm;have hus:kQ d (1,x)=false:=rfl;refine vA (λh=>lift (sU hk h5 hE rfl (ht.trans h)) _ rfl) λh=>?_;have hth:dQ d (1,x) = !kL (1,x):=ht.trans h;refine aF (s:=[(true,aD)]) (y:=d) ((gR ..).trans (dP hc)) ?_;have z3:RQ [aG true aD d,aG true aN (1,x)]=some (Sh.enc [(true,aD)] (mI d (1,x))):=(AYT ..).trans (dP hc);refine aF (s:=[(true,aD)]) (y:=mI d (1,x)) z3 ?_;refine aF (s:=[(false,.int .i64)]) (y:=iP (mI d (1,x)) m) (fX ..) ?_;exact kX (λh=>lift ((eW hk h5 hE hth hus).trans (if_neg h)) _ rfl) λh=>lift ((eW hk h5 hE hth hus).trans (if_pos h)) _ rfl
def KG (a0:aB) (a1:aI) (a2:iII×iII×bQ×a8×bT×aQ×bM):List T:=[aG true aD a0,aG true aM a1,aG true aN (3,a2)]
noncomputable def AR9:Env:=Env.of [(93,.pure cE),(167,.pure R8),(94,.pure lK),(69,.pure fG),(169,.pure RT),(65,.pure cT)]
def A81:FuncId->Hint:=λ_=>bA
def A3Y:aV Tryz.prog AR9:=.cons jE (.cons BB9 (.cons C9 (.cons oD (.cons BBT (.cons j8 (.nil _))))))
def BMG:Sh:=[(true,aK),(false,Sy.bool)]
def AT2(a0:aB)(a1:aI)(a2:iII×iII×bQ×a8×bT×aQ×bM)(R:T->Prop):Prop:=aJ [(true,aN)] (R8 [(aG true aN (3,a2))]) λ(y0:aX)=>aJ BMB (cE [(aG true aN (3,a2)), aG true aN y0]) λ(y1:Bool)=>aC (!y1) (R (T.b7 BMC)) (aJ BMG (lK [aG true aD a0,pPQ a2.2.2.2.1.1]) λ(y2:a8×Bool)=>aC y2.2 (R (T.b7 BMI)) (aJ [(true,aD)] (fG [aG true aD a0]) λ(y3:aB)=>aJ [(true,aD)] (RT [aG true aD y3, (aG true aN (3,a2))]) λ(y4:aB)=>BMP y4 a1 R))
def AT3 ( a0 a1 a2 R):eG bY Tryz.prog AR9 A81 8 66 (KG a0 a1 a2) R=AT2 a0 a1 a2 R:=by kernel_rfl
noncomputable def AIT (x:oZ):Option T:=match okX x.1 (3,x.2.2) with
 | true=>some (Sh.enc [(true,aD),(false,.int .i64)] (bJ x.1 x.2.1 (3,x.2.2)))
 | false=>none
def ALR (x y:oZ) (h:KG x.1 x.2.1 x.2.2=KG y.1 y.2.1 y.2.2):x=y:=lI 3 x y h
noncomputable def AYF:List T->Option (T):=gA (λ(x:aB×aI×iII×iII×bQ×a8×bT×aQ×bM)=>KG x.1 x.2.1 x.2.2) AIT
def AYG (a0:aB) (a1:aI) (a2:iII×iII×bQ×a8×bT×aQ×bM):AYF (KG a0 a1 a2)=AIT (a0,a1,a2):=fN (A:=(λ(x:aB×aI×iII×iII×bQ×a8×bT×aQ×bM)=>KG x.1 x.2.1 x.2.2)) ALR (a0,a1,a2)
def BDQ (h:∀ (a0:aB) (a1:aI) (a2:iII×iII×bQ×a8×bT×aQ×bM) (r:T),AIT (a0,a1,a2)=some r->(∀ t∈KG a0 a1 a2,Bd t)->AT2 a0 a1 a2 (λy=>y=r)):aP Tryz.prog 66 AYF :=
 cQ (E:=AR9) (Hs:=A81) A3Y aY a7 (aO rfl) 8 ⟨_,_,Tryz.func66,rfl⟩ λx r h1 h2=>by
  rw[AT3];exact h x.1 x.2.1 x.2.2 r h1 h2
def BBK:aP Tryz.prog 66 AYF:=BDQ λd m x r h hb=>by
 clear hb;obtain ⟨hp,rfl⟩:=j0 h;clear h;obtain ⟨hc,ho1,ho2⟩:=lL hp;have c:=dZ hc;have is:∀ {a:aB×Int},bJ d m (3,x)=a->Sh.enc [(true,aD),(false,.int .i64)] a=Sh.enc [(true,aD),(false,.int .i64)] (bJ d m (3,x)):=λh=>by rw[h]
 have hk:(1:Int)<=((3,x):aX).1/\((3,x):aX).1<=12:=by dsimp only;omega
 have h5:¬ ((3,x):aX).1=5:=by dsimp only;omega
 have lift:∀ {a:aB×Int},bJ d m (3,x)=a->∀ v,v=Sh.enc [(true,aD),(false,.int .i64)] a->v=Sh.enc [(true,aD),(false,.int .i64)] (bJ d m (3,x)):=λh v hv=>by rw[h];exact hv
 unfold AT2 BMP BMI BMG BMC BMB BMA BL8;have z1:R8 [aG true aN (3,x)]=some (Sh.enc [(true,aN)] (bU (3,x))):=(AY8 ..).trans rfl;refine aF (s:=[(true,aN)]) (y:=bU (3,x)) z1 ?_;have z2:cE [aG true aN (3,x),aG true aN (bU (3,x))]=some (Sh.enc kO (nJ (3,x) (bU (3,x)))):=fH ..;refine aF (s:=kO) (y:=nJ (3,x) (bU (3,x))) z2 ?_;refine fK (λh=>lift (lJ hk h) _ rfl) λhE=>?_;refine aF (s:=[(true,aK),(false,.bool)]) (y:=found dV (partOf d (cI (3,x)).1)) ((qM ..).trans (by unfold lF;dsimp only;rw[c.I4];rfl)) ?_;have ht:dQ d (3,x)=(found dV (partOf d (cI (3,x)).1)).2:=(gQ ..).symm;have hus:kQ d (3,x)=false:=rfl;refine vA (λh=>lift (sU hk h5 hE rfl (ht.trans h)) _ rfl) λh=>?_;have hth:dQ d (3,x) = !kL (3,x):=ht.trans h;refine aF (s:=[(true,aD)]) (y:=d) ((gR ..).trans (dP hc)) ?_;have z3:RT [aG true aD d,aG true aN (3,x)]=some (Sh.enc [(true,aD)] (mI d (3,x))):=(AYV ..).trans (dP (by rw[hc,ho1];rfl));refine aF (s:=[(true,aD)]) (y:=mI d (3,x)) z3 ?_;refine aF (s:=[(false,.int .i64)]) (y:=iP (mI d (3,x)) m) (fX ..) ?_;exact kX (λh=>lift ((eW hk h5 hE hth hus).trans (if_neg h)) _ rfl) λh=>lift ((eW hk h5 hE hth hus).trans (if_pos h)) _ rfl
def KK (a0:aB) (a1:aI) (a2:iII×iII×bQ×a8×bT×aQ×bM):List T:=[aG true aD a0,aG true aM a1,aG true aN (7,a2)]
noncomputable def ASD:Env:=Env.of [(93,.pure cE),(195,.pure SC),(197,.pure CA),(69,.pure fG),(198,.pure RV),(65,.pure cT)]
def A85:FuncId->Hint:=λ_=>bA
def A32:aV Tryz.prog ASD:=.cons jE (.cons BCD (.cons AKD (.cons oD (.cons BBV (.cons j8 (.nil _))))))
def AUA(a0:aB)(a1:aI)(a2:iII×iII×bQ×a8×bT×aQ×bM)(R:T->Prop):Prop:=aJ [(true,aN)] (SC [(aG true aN (7,a2))]) λ(y0:aX)=>aJ BMB (cE [(aG true aN (7,a2)), aG true aN y0]) λ(y1:Bool)=>aC (!y1) (R (T.b7 BMC)) (aJ [(true,bE),(false,Sy.bool)] (CA [aG true aD a0,pPQ a2.2.2.2.2.1.1]) λ(y2:bT×Bool)=>aC y2.2 (R (T.b7 BMI)) (aJ [(true,aD)] (fG [aG true aD a0]) λ(y3:aB)=>aJ [(true,aD)] (RV [aG true aD y3, (aG true aN (7,a2))]) λ(y4:aB)=>BMP y4 a1 R))
def AUB ( a0 a1 a2 R):eG bY Tryz.prog ASD A85 8 66 (KK a0 a1 a2) R=AUA a0 a1 a2 R:=by kernel_rfl
noncomputable def AIX (x:oZ):Option T:=match okX x.1 (7,x.2.2) with
 | true=>some (Sh.enc [(true,aD),(false,.int .i64)] (bJ x.1 x.2.1 (7,x.2.2)))
 | false=>none
def ALV (x y:oZ) (h:KK x.1 x.2.1 x.2.2=KK y.1 y.2.1 y.2.2):x=y:=lI 7 x y h
noncomputable def AYN:List T->Option (T):=gA (λ(x:aB×aI×iII×iII×bQ×a8×bT×aQ×bM)=>KK x.1 x.2.1 x.2.2) AIX
def AYO (a0:aB) (a1:aI) (a2:iII×iII×bQ×a8×bT×aQ×bM):AYN (KK a0 a1 a2)=AIX (a0,a1,a2):=fN (A:=(λ(x:aB×aI×iII×iII×bQ×a8×bT×aQ×bM)=>KK x.1 x.2.1 x.2.2)) ALV (a0,a1,a2)
def BDU (h:∀ (a0:aB) (a1:aI) (a2:iII×iII×bQ×a8×bT×aQ×bM) (r:T),AIX (a0,a1,a2)=some r->(∀ t∈KK a0 a1 a2,Bd t)->AUA a0 a1 a2 (λy=>y=r)):aP Tryz.prog 66 AYN :=
 cQ (E:=ASD) (Hs:=A85) A32 aY a7 (aO rfl) 8 ⟨_,_,Tryz.func66,rfl⟩ λx r h1 h2=>by
  rw[AUB];exact h x.1 x.2.1 x.2.2 r h1 h2
def BBO:aP Tryz.prog 66 AYN:=BDU λd m x r h hb=>by
 clear hb;obtain ⟨hp,rfl⟩:=j0 h;clear h;obtain ⟨hc,ho1,ho2⟩:=lL hp;have c:=dZ hc;have is:∀ {a:aB×Int},bJ d m (7,x)=a->Sh.enc [(true,aD),(false,.int .i64)] a=Sh.enc [(true,aD),(false,.int .i64)] (bJ d m (7,x)):=λh=>by rw[h]
 have hk:(1:Int)<=((7,x):aX).1/\((7,x):aX).1<=12:=by dsimp only;omega
 have h5:¬ ((7,x):aX).1=5:=by dsimp only;omega
 have lift:∀ {a:aB×Int},bJ d m (7,x)=a->∀ v,v=Sh.enc [(true,aD),(false,.int .i64)] a->v=Sh.enc [(true,aD),(false,.int .i64)] (bJ d m (7,x)):=λh v hv=>by rw[h];exact hv
 unfold AUA BMP BMI BMC BMB BMA BL8;have z1:SC [aG true aN (7,x)]=some (Sh.enc [(true,aN)] (bU (7,x))):=(AZC ..).trans rfl;refine aF (s:=[(true,aN)]) (y:=bU (7,x)) z1 ?_;have z2:cE [aG true aN (7,x),aG true aN (bU (7,x))]=some (Sh.enc kO (nJ (7,x) (bU (7,x)))):=fH ..;refine aF (s:=kO) (y:=nJ (7,x) (bU (7,x))) z2 ?_;refine fK (λh=>lift (lJ hk h) _ rfl) λhE=>?_;refine aF (s:=[(true,bE),(false,.bool)]) (y:=found iC (yD d (sY (7,x)).1)) (SF ..) ?_;have ht:dQ d (7,x)=(found iC (yD d (sY (7,x)).1)).2:=(gQ ..).symm;have hus:kQ d (7,x)=false:=rfl;refine vA (λh=>lift (sU hk h5 hE rfl (ht.trans h)) _ rfl) λh=>?_;have hth:dQ d (7,x) = !kL (7,x):=ht.trans h;refine aF (s:=[(true,aD)]) (y:=d) ((gR ..).trans (dP hc)) ?_;have z3:RV [aG true aD d,aG true aN (7,x)]=some (Sh.enc [(true,aD)] (mI d (7,x))):=(AYX ..).trans (dP hc);refine aF (s:=[(true,aD)]) (y:=mI d (7,x)) z3 ?_;refine aF (s:=[(false,.int .i64)]) (y:=iP (mI d (7,x)) m) (fX ..) ?_;exact kX (λh=>lift ((eW hk h5 hE hth hus).trans (if_neg h)) _ rfl) λh=>lift ((eW hk h5 hE hth hus).trans (if_pos h)) _ rfl
def KM (a0:aB) (a1:aI) (a2:iII×iII×bQ×a8×bT×aQ×bM):List T:=[aG true aD a0,aG true aM a1,aG true aN (9,a2)]
noncomputable def ASF:Env:=Env.of [(93,.pure cE),(215,.pure SE),(217,.pure B8),(69,.pure fG),(218,.pure RX),(65,.pure cT)]
def A87:FuncId->Hint:=λ_=>bA
def A34:aV Tryz.prog ASF:=.cons jE (.cons BCF (.cons AKA (.cons oD (.cons BBX (.cons j8 (.nil _))))))
def AUE(a0:aB)(a1:aI)(a2:iII×iII×bQ×a8×bT×aQ×bM)(R:T->Prop):Prop:=aJ [(true,aN)] (SE [(aG true aN (9,a2))]) λ(y0:aX)=>aJ BMB (cE [(aG true aN (9,a2)), aG true aN y0]) λ(y1:Bool)=>aC (!y1) (R (T.b7 BMC)) (aJ [(true,aH),(false,Sy.bool)] (B8 [aG true aD a0,pPQ a2.2.2.2.2.2.1.1]) λ(y2:aQ×Bool)=>aC y2.2 (R (T.b7 BMI)) (aJ [(true,aD)] (fG [aG true aD a0]) λ(y3:aB)=>aJ [(true,aD)] (RX [aG true aD y3, (aG true aN (9,a2))]) λ(y4:aB)=>BMP y4 a1 R))
def AUF ( a0 a1 a2 R):eG bY Tryz.prog ASF A87 8 66 (KM a0 a1 a2) R=AUE a0 a1 a2 R:=by kernel_rfl
noncomputable def AIZ (x:oZ):Option T:=match okX x.1 (9,x.2.2) with
 | true=>some (Sh.enc [(true,aD),(false,.int .i64)] (bJ x.1 x.2.1 (9,x.2.2)))
 | false=>none
def ALX (x y:oZ) (h:KM x.1 x.2.1 x.2.2=KM y.1 y.2.1 y.2.2):x=y:=lI 9 x y h
noncomputable def AYR:List T->Option (T):=gA (λ(x:aB×aI×iII×iII×bQ×a8×bT×aQ×bM)=>KM x.1 x.2.1 x.2.2) AIZ
def AYS (a0:aB) (a1:aI) (a2:iII×iII×bQ×a8×bT×aQ×bM):AYR (KM a0 a1 a2)=AIZ (a0,a1,a2):=fN (A:=(λ(x:aB×aI×iII×iII×bQ×a8×bT×aQ×bM)=>KM x.1 x.2.1 x.2.2)) ALX (a0,a1,a2)
def BDW (h:∀ (a0:aB) (a1:aI) (a2:iII×iII×bQ×a8×bT×aQ×bM) (r:T),AIZ (a0,a1,a2)=some r->(∀ t∈KM a0 a1 a2,Bd t)->AUE a0 a1 a2 (λy=>y=r)):aP Tryz.prog 66 AYR :=
 cQ (E:=ASF) (Hs:=A87) A34 aY a7 (aO rfl) 8 ⟨_,_,Tryz.func66,rfl⟩ λx r h1 h2=>by
  rw[AUF];exact h x.1 x.2.1 x.2.2 r h1 h2
def BBQ:aP Tryz.prog 66 AYR:=BDW λd m x r h hb=>by
 clear hb;obtain ⟨hp,rfl⟩:=j0 h;clear h;obtain ⟨hc,ho1,ho2⟩:=lL hp;have c:=dZ hc;have is:∀ {a:aB×Int},bJ d m (9,x)=a->Sh.enc [(true,aD),(false,.int .i64)] a=Sh.enc [(true,aD),(false,.int .i64)] (bJ d m (9,x)):=λh=>by rw[h]
 have hk:(1:Int)<=((9,x):aX).1/\((9,x):aX).1<=12:=by dsimp only;omega
 have h5:¬ ((9,x):aX).1=5:=by dsimp only;omega
 have lift:∀ {a:aB×Int},bJ d m (9,x)=a->∀ v,v=Sh.enc [(true,aD),(false,.int .i64)] a->v=Sh.enc [(true,aD),(false,.int .i64)] (bJ d m (9,x)):=λh v hv=>by rw[h];exact hv
 unfold AUE BMP BMI BMC BMB BMA BL8;have z1:SE [aG true aN (9,x)]=some (Sh.enc [(true,aN)] (bU (9,x))):=(AZE ..).trans rfl;refine aF (s:=[(true,aN)]) (y:=bU (9,x)) z1 ?_;have z2:cE [aG true aN (9,x),aG true aN (bU (9,x))]=some (Sh.enc kO (nJ (9,x) (bU (9,x)))):=fH ..;refine aF (s:=kO) (y:=nJ (9,x) (bU (9,x))) z2 ?_;refine fK (λh=>lift (lJ hk h) _ rfl) λhE=>?_;refine aF (s:=[(true,aH),(false,.bool)]) (y:=found noPack (mZ d (iQ (9,x)).1)) ((R1 ..).trans (ACF _ c.HA)) ?_;have ht:dQ d (9,x)=(found noPack (mZ d (iQ (9,x)).1)).2:=(gQ ..).symm;have hus:kQ d (9,x)=false:=rfl;refine vA (λh=>lift (sU hk h5 hE rfl (ht.trans h)) _ rfl) λh=>?_;have hth:dQ d (9,x) = !kL (9,x):=ht.trans h;refine aF (s:=[(true,aD)]) (y:=d) ((gR ..).trans (dP hc)) ?_;have z3:RX [aG true aD d,aG true aN (9,x)]=some (Sh.enc [(true,aD)] (mI d (9,x))):=(AYZ ..).trans (dP (by rw[hc,ho2];rfl));refine aF (s:=[(true,aD)]) (y:=mI d (9,x)) z3 ?_;refine aF (s:=[(false,.int .i64)]) (y:=iP (mI d (9,x)) m) (fX ..) ?_;exact kX (λh=>lift ((eW hk h5 hE hth hus).trans (if_neg h)) _ rfl) λh=>lift ((eW hk h5 hE hth hus).trans (if_pos h)) _ rfl
def KF (a0:aB) (a1:aI) (a2:iII×iII×bQ×a8×bT×aQ×bM):List T:=[aG true aD a0,aG true aM a1,aG true aN (2,a2)]
noncomputable def AR8:Env:=Env.of [(93,.pure cE),(155,.pure R6),(149,.pure B7),(138,.pure zA),(69,.pure fG),(157,.pure RR),(65,.pure cT)]
def A80:FuncId->Hint:=λ_=>bA
def A3X:aV Tryz.prog AR8:=.cons jE (.cons BB8 (.cons AJ9 (.cons AX5 (.cons oD (.cons BBS (.cons j8 (.nil _)))))))
def BME:List T:=[T.agg BL8, pPP 8]
def BMH:List T:=[T.agg BL8, pPP 34]
def AT0(a0:aB)(a1:aI)(a2:iII×iII×bQ×a8×bT×aQ×bM)(R:T->Prop):Prop:=aJ [(true,aN)] (R6 [(aG true aN (2,a2))]) λ(y0:aX)=>aJ BMB (cE [(aG true aN (2,a2)), aG true aN y0]) λ(y1:Bool)=>aC (!y1) (R (T.b7 BMC)) (aJ [(true,bC),(false,Sy.bool)] (B7 [aG true aD a0,pPQ a2.1]) λ(y2:bQ×Bool)=>aC (!y2.2) (R (T.b7 BME)) (aJ BMB (zA [aG true aD a0, (aG true aN (2,a2))]) λ(y3:Bool)=>aC y3 (R (T.b7 BMH)) (aJ [(true,aD)] (fG [aG true aD a0]) λ(y4:aB)=>aJ [(true,aD)] (RR [aG true aD y4, (aG true aN (2,a2))]) λ(y5:aB)=>BMP y5 a1 R)))
def AT1 ( a0 a1 a2 R):eG bY Tryz.prog AR8 A80 8 66 (KF a0 a1 a2) R=AT0 a0 a1 a2 R:=by kernel_rfl
noncomputable def AIS (x:oZ):Option T:=match okX x.1 (2,x.2.2) with
 | true=>some (Sh.enc [(true,aD),(false,.int .i64)] (bJ x.1 x.2.1 (2,x.2.2)))
 | false=>none
def ALQ (x y:oZ) (h:KF x.1 x.2.1 x.2.2=KF y.1 y.2.1 y.2.2):x=y:=lI 2 x y h
noncomputable def AYD:List T->Option (T):=gA (λ(x:aB×aI×iII×iII×bQ×a8×bT×aQ×bM)=>KF x.1 x.2.1 x.2.2) AIS
def AYE (a0:aB) (a1:aI) (a2:iII×iII×bQ×a8×bT×aQ×bM):AYD (KF a0 a1 a2)=AIS (a0,a1,a2):=fN (A:=(λ(x:aB×aI×iII×iII×bQ×a8×bT×aQ×bM)=>KF x.1 x.2.1 x.2.2)) ALQ (a0,a1,a2)
def BDP (h:∀ (a0:aB) (a1:aI) (a2:iII×iII×bQ×a8×bT×aQ×bM) (r:T),AIS (a0,a1,a2)=some r->(∀ t∈KF a0 a1 a2,Bd t)->AT0 a0 a1 a2 (λy=>y=r)):aP Tryz.prog 66 AYD :=
 cQ (E:=AR8) (Hs:=A80) A3X aY a7 (aO rfl) 8 ⟨_,_,Tryz.func66,rfl⟩ λx r h1 h2=>by
  rw[AT1];exact h x.1 x.2.1 x.2.2 r h1 h2
def BBJ:aP Tryz.prog 66 AYD:=BDP λd m x r h hb=>by
 clear hb;obtain ⟨hp,rfl⟩:=j0 h;clear h;obtain ⟨hc,ho1,ho2⟩:=lL hp;have c:=dZ hc;have is:∀ {a:aB×Int},bJ d m (2,x)=a->Sh.enc [(true,aD),(false,.int .i64)] a=Sh.enc [(true,aD),(false,.int .i64)] (bJ d m (2,x)):=λh=>by rw[h]
 have hk:(1:Int)<=((2,x):aX).1/\((2,x):aX).1<=12:=by dsimp only;omega
 have h5:¬ ((2,x):aX).1=5:=by dsimp only;omega
 have lift:∀ {a:aB×Int},bJ d m (2,x)=a->∀ v,v=Sh.enc [(true,aD),(false,.int .i64)] a->v=Sh.enc [(true,aD),(false,.int .i64)] (bJ d m (2,x)):=λh v hv=>by rw[h];exact hv
 unfold AT0 BMP BMH BME BMC BMB BMA BL8;have z1:R6 [aG true aN (2,x)]=some (Sh.enc [(true,aN)] (bU (2,x))):=(AY7 ..).trans rfl;refine aF (s:=[(true,aN)]) (y:=bU (2,x)) z1 ?_;have z2:cE [aG true aN (2,x),aG true aN (bU (2,x))]=some (Sh.enc kO (nJ (2,x) (bU (2,x)))):=fH ..;refine aF (s:=kO) (y:=nJ (2,x) (bU (2,x))) z2 ?_;refine fK (λh=>lift (lJ hk h) _ rfl) λhE=>?_;refine aF (s:=[(true,bC),(false,.bool)]) (y:=found iB (iD d (fD (2,x)))) (R0 ..) ?_;have ht:dQ d (2,x)=(found iB (iD d (fD (2,x)))).2:=(gQ ..).symm;refine fK (λh=>lift (sS hk h5 hE rfl (ht.trans h)) _ rfl) λh=>?_;have hth:dQ d (2,x) = !kL (2,x):=ht.trans h;have z4:zA [aG true aD d,aG true aN (2,x)]=some (Sh.enc kO (kQ d (2,x))):=(AG0 ..).trans (dP hc);refine aF (s:=kO) (y:=kQ d (2,x)) z4 ?_;refine vA (λh=>lift (CY hk h5 hE hth h) _ rfl) λhus=>?_;refine aF (s:=[(true,aD)]) (y:=d) ((gR ..).trans (dP hc)) ?_;have z3:RR [aG true aD d,aG true aN (2,x)]=some (Sh.enc [(true,aD)] (mI d (2,x))):=(AYU ..).trans (dP hc);refine aF (s:=[(true,aD)]) (y:=mI d (2,x)) z3 ?_;refine aF (s:=[(false,.int .i64)]) (y:=iP (mI d (2,x)) m) (fX ..) ?_;exact kX (λh=>lift ((eW hk h5 hE hth hus).trans (if_neg h)) _ rfl) λh=>lift ((eW hk h5 hE hth hus).trans (if_pos h)) _ rfl
def KH (a0:aB) (a1:aI) (a2:iII×iII×bQ×a8×bT×aQ×bM):List T:=[aG true aD a0,aG true aM a1,aG true aN (4,a2)]
noncomputable def ASA:Env:=Env.of [(93,.pure cE),(174,.pure R9),(94,.pure lK),(162,.pure zC),(69,.pure fG),(176,.pure RU),(65,.pure cT)]
def A82:FuncId->Hint:=λ_=>bA
def A3Z:aV Tryz.prog ASA:=.cons jE (.cons BCA (.cons C9 (.cons AX7 (.cons oD (.cons BBU (.cons j8 (.nil _)))))))
def AT4(a0:aB)(a1:aI)(a2:iII×iII×bQ×a8×bT×aQ×bM)(R:T->Prop):Prop:=aJ [(true,aN)] (R9 [(aG true aN (4,a2))]) λ(y0:aX)=>aJ BMB (cE [(aG true aN (4,a2)), aG true aN y0]) λ(y1:Bool)=>aC (!y1) (R (T.b7 BMC)) (aJ BMG (lK [aG true aD a0,pPQ a2.1]) λ(y2:a8×Bool)=>aC (!y2.2) (R (T.b7 BME)) (aJ BMB (zC [aG true aD a0, (aG true aN (4,a2))]) λ(y3:Bool)=>aC y3 (R (T.b7 BMH)) (aJ [(true,aD)] (fG [aG true aD a0]) λ(y4:aB)=>aJ [(true,aD)] (RU [aG true aD y4, (aG true aN (4,a2))]) λ(y5:aB)=>BMP y5 a1 R)))
def AT5 ( a0 a1 a2 R):eG bY Tryz.prog ASA A82 8 66 (KH a0 a1 a2) R=AT4 a0 a1 a2 R:=by kernel_rfl
noncomputable def AIU (x:oZ):Option T:=match okX x.1 (4,x.2.2) with
 | true=>some (Sh.enc [(true,aD),(false,.int .i64)] (bJ x.1 x.2.1 (4,x.2.2)))
 | false=>none
def ALS (x y:oZ) (h:KH x.1 x.2.1 x.2.2=KH y.1 y.2.1 y.2.2):x=y:=lI 4 x y h
noncomputable def AYH:List T->Option (T):=gA (λ(x:aB×aI×iII×iII×bQ×a8×bT×aQ×bM)=>KH x.1 x.2.1 x.2.2) AIU
def AYI (a0:aB) (a1:aI) (a2:iII×iII×bQ×a8×bT×aQ×bM):AYH (KH a0 a1 a2)=AIU (a0,a1,a2):=fN (A:=(λ(x:aB×aI×iII×iII×bQ×a8×bT×aQ×bM)=>KH x.1 x.2.1 x.2.2)) ALS (a0,a1,a2)
def BDR (h:∀ (a0:aB) (a1:aI) (a2:iII×iII×bQ×a8×bT×aQ×bM) (r:T),AIU (a0,a1,a2)=some r->(∀ t∈KH a0 a1 a2,Bd t)->AT4 a0 a1 a2 (λy=>y=r)):aP Tryz.prog 66 AYH :=
 cQ (E:=ASA) (Hs:=A82) A3Z aY a7 (aO rfl) 8 ⟨_,_,Tryz.func66,rfl⟩ λx r h1 h2=>by
  rw[AT5];exact h x.1 x.2.1 x.2.2 r h1 h2
def BBL:aP Tryz.prog 66 AYH:=BDR λd m x r h hb=>by
 clear hb;obtain ⟨hp,rfl⟩:=j0 h;clear h;obtain ⟨hc,ho1,ho2⟩:=lL hp;have c:=dZ hc;have is:∀ {a:aB×Int},bJ d m (4,x)=a->Sh.enc [(true,aD),(false,.int .i64)] a=Sh.enc [(true,aD),(false,.int .i64)] (bJ d m (4,x)):=λh=>by rw[h]
 have hk:(1:Int)<=((4,x):aX).1/\((4,x):aX).1<=12:=by dsimp only;omega
 have h5:¬ ((4,x):aX).1=5:=by dsimp only;omega
 have lift:∀ {a:aB×Int},bJ d m (4,x)=a->∀ v,v=Sh.enc [(true,aD),(false,.int .i64)] a->v=Sh.enc [(true,aD),(false,.int .i64)] (bJ d m (4,x)):=λh v hv=>by rw[h];exact hv
 unfold AT4 BMP BMH BMG BME BMC BMB BMA BL8;have z1:R9 [aG true aN (4,x)]=some (Sh.enc [(true,aN)] (bU (4,x))):=(AY9 ..).trans rfl;refine aF (s:=[(true,aN)]) (y:=bU (4,x)) z1 ?_;have z2:cE [aG true aN (4,x),aG true aN (bU (4,x))]=some (Sh.enc kO (nJ (4,x) (bU (4,x)))):=fH ..;refine aF (s:=kO) (y:=nJ (4,x) (bU (4,x))) z2 ?_;refine fK (λh=>lift (lJ hk h) _ rfl) λhE=>?_;refine aF (s:=[(true,aK),(false,.bool)]) (y:=found dV (partOf d (fD (4,x)))) ((qM ..).trans (by unfold lF;dsimp only;rw[c.I4];rfl)) ?_;have ht:dQ d (4,x)=(found dV (partOf d (fD (4,x)))).2:=(gQ ..).symm;refine fK (λh=>lift (sS hk h5 hE rfl (ht.trans h)) _ rfl) λh=>?_;have hth:dQ d (4,x) = !kL (4,x):=ht.trans h;have z4:zC [aG true aD d,aG true aN (4,x)]=some (Sh.enc kO (kQ d (4,x))):=(AG2 ..).trans (dP hc);refine aF (s:=kO) (y:=kQ d (4,x)) z4 ?_;refine vA (λh=>lift (CY hk h5 hE hth h) _ rfl) λhus=>?_;refine aF (s:=[(true,aD)]) (y:=d) ((gR ..).trans (dP hc)) ?_;have z3:RU [aG true aD d,aG true aN (4,x)]=some (Sh.enc [(true,aD)] (mI d (4,x))):=(AYW ..).trans (dP hc);refine aF (s:=[(true,aD)]) (y:=mI d (4,x)) z3 ?_;refine aF (s:=[(false,.int .i64)]) (y:=iP (mI d (4,x)) m) (fX ..) ?_;exact kX (λh=>lift ((eW hk h5 hE hth hus).trans (if_neg h)) _ rfl) λh=>lift ((eW hk h5 hE hth hus).trans (if_pos h)) _ rfl
def KL (a0:aB) (a1:aI) (a2:iII×iII×bQ×a8×bT×aQ×bM):List T:=[aG true aD a0,aG true aM a1,aG true aN (8,a2)]
noncomputable def ASE:Env:=Env.of [(93,.pure cE),(203,.pure SD),(197,.pure CA),(183,.pure jG),(69,.pure fG),(205,.pure RW),(65,.pure cT)]
def A86:FuncId->Hint:=λ_=>bA
def A33:aV Tryz.prog ASE:=.cons jE (.cons BCE (.cons AKD (.cons tG (.cons oD (.cons BBW (.cons j8 (.nil _)))))))
def AUC(a0:aB)(a1:aI)(a2:iII×iII×bQ×a8×bT×aQ×bM)(R:T->Prop):Prop:=aJ [(true,aN)] (SD [(aG true aN (8,a2))]) λ(y0:aX)=>aJ BMB (cE [(aG true aN (8,a2)), aG true aN y0]) λ(y1:Bool)=>aC (!y1) (R (T.b7 BMC)) (aJ [(true,bE),(false,Sy.bool)] (CA [aG true aD a0,pPQ a2.1]) λ(y2:bT×Bool)=>aC (!y2.2) (R (T.b7 BME)) (aJ BMB (jG [aG true aD a0, (aG true aN (8,a2))]) λ(y3:Bool)=>aC y3 (R (T.b7 BMH)) (aJ [(true,aD)] (fG [aG true aD a0]) λ(y4:aB)=>aJ [(true,aD)] (RW [aG true aD y4, (aG true aN (8,a2))]) λ(y5:aB)=>BMP y5 a1 R)))
def AUD ( a0 a1 a2 R):eG bY Tryz.prog ASE A86 8 66 (KL a0 a1 a2) R=AUC a0 a1 a2 R:=by kernel_rfl
noncomputable def AIY (x:oZ):Option T:=match okX x.1 (8,x.2.2) with
 | true=>some (Sh.enc [(true,aD),(false,.int .i64)] (bJ x.1 x.2.1 (8,x.2.2)))
 | false=>none
def ALW (x y:oZ) (h:KL x.1 x.2.1 x.2.2=KL y.1 y.2.1 y.2.2):x=y:=lI 8 x y h
noncomputable def AYP:List T->Option (T):=gA (λ(x:aB×aI×iII×iII×bQ×a8×bT×aQ×bM)=>KL x.1 x.2.1 x.2.2) AIY
def AYQ (a0:aB) (a1:aI) (a2:iII×iII×bQ×a8×bT×aQ×bM):AYP (KL a0 a1 a2)=AIY (a0,a1,a2):=fN (A:=(λ(x:aB×aI×iII×iII×bQ×a8×bT×aQ×bM)=>KL x.1 x.2.1 x.2.2)) ALW (a0,a1,a2)
def BDV (h:∀ (a0:aB) (a1:aI) (a2:iII×iII×bQ×a8×bT×aQ×bM) (r:T),AIY (a0,a1,a2)=some r->(∀ t∈KL a0 a1 a2,Bd t)->AUC a0 a1 a2 (λy=>y=r)):aP Tryz.prog 66 AYP :=
 cQ (E:=ASE) (Hs:=A86) A33 aY a7 (aO rfl) 8 ⟨_,_,Tryz.func66,rfl⟩ λx r h1 h2=>by
  rw[AUD];exact h x.1 x.2.1 x.2.2 r h1 h2
def BBP:aP Tryz.prog 66 AYP:=BDV λd m x r h hb=>by
 clear hb;obtain ⟨hp,rfl⟩:=j0 h;clear h;obtain ⟨hc,ho1,ho2⟩:=lL hp;have c:=dZ hc;have is:∀ {a:aB×Int},bJ d m (8,x)=a->Sh.enc [(true,aD),(false,.int .i64)] a=Sh.enc [(true,aD),(false,.int .i64)] (bJ d m (8,x)):=λh=>by rw[h]
 have hk:(1:Int)<=((8,x):aX).1/\((8,x):aX).1<=12:=by dsimp only;omega
 have h5:¬ ((8,x):aX).1=5:=by dsimp only;omega
 have lift:∀ {a:aB×Int},bJ d m (8,x)=a->∀ v,v=Sh.enc [(true,aD),(false,.int .i64)] a->v=Sh.enc [(true,aD),(false,.int .i64)] (bJ d m (8,x)):=λh v hv=>by rw[h];exact hv
 unfold AUC BMP BMH BME BMC BMB BMA BL8;have z1:SD [aG true aN (8,x)]=some (Sh.enc [(true,aN)] (bU (8,x))):=(AZD ..).trans rfl;refine aF (s:=[(true,aN)]) (y:=bU (8,x)) z1 ?_;have z2:cE [aG true aN (8,x),aG true aN (bU (8,x))]=some (Sh.enc kO (nJ (8,x) (bU (8,x)))):=fH ..;refine aF (s:=kO) (y:=nJ (8,x) (bU (8,x))) z2 ?_;refine fK (λh=>lift (lJ hk h) _ rfl) λhE=>?_;refine aF (s:=[(true,bE),(false,.bool)]) (y:=found iC (yD d (fD (8,x)))) (SF ..) ?_;have ht:dQ d (8,x)=(found iC (yD d (fD (8,x)))).2:=(gQ ..).symm;refine fK (λh=>lift (sS hk h5 hE rfl (ht.trans h)) _ rfl) λh=>?_;have hth:dQ d (8,x) = !kL (8,x):=ht.trans h;have z4:jG [aG true aD d,aG true aN (8,x)]=some (Sh.enc kO (kQ d (8,x))):=(IX ..).trans (rfl);refine aF (s:=kO) (y:=kQ d (8,x)) z4 ?_;refine vA (λh=>lift (CY hk h5 hE hth h) _ rfl) λhus=>?_;refine aF (s:=[(true,aD)]) (y:=d) ((gR ..).trans (dP hc)) ?_;have z3:RW [aG true aD d,aG true aN (8,x)]=some (Sh.enc [(true,aD)] (mI d (8,x))):=(AYY ..).trans (dP hc);refine aF (s:=[(true,aD)]) (y:=mI d (8,x)) z3 ?_;refine aF (s:=[(false,.int .i64)]) (y:=iP (mI d (8,x)) m) (fX ..) ?_;exact kX (λh=>lift ((eW hk h5 hE hth hus).trans (if_neg h)) _ rfl) λh=>lift ((eW hk h5 hE hth hus).trans (if_pos h)) _ rfl
def BC (a0:aB) (a1:aI) (a2:iII×iII×bQ×a8×bT×aQ×bM):List T:=[aG true aD a0,aG true aM a1,aG true aN (10,a2)]
noncomputable def ADG:Env:=Env.of [(93,.pure cE),(224,.pure GL),(217,.pure B8),(210,.pure zB),(69,.pure fG),(226,.pure GK),(65,.pure cT)]
def AVJ:FuncId->Hint:=λ_=>bA
def ATD:aV Tryz.prog ADG:=.cons jE (.cons A6V (.cons AKA (.cons AX6 (.cons oD (.cons A6I (.cons j8 (.nil _)))))))
def AEK(a0:aB)(a1:aI)(a2:iII×iII×bQ×a8×bT×aQ×bM)(R:T->Prop):Prop:=aJ [(true,aN)] (GL [(aG true aN (10,a2))]) λ(y0:aX)=>aJ BMB (cE [(aG true aN (10,a2)), aG true aN y0]) λ(y1:Bool)=>aC (!y1) (R (T.b7 BMC)) (aJ [(true,aH),(false,Sy.bool)] (B8 [aG true aD a0,pPQ a2.1]) λ(y2:aQ×Bool)=>aC (!y2.2) (R (T.b7 BME)) (aJ BMB (zB [aG true aD a0, (aG true aN (10,a2))]) λ(y3:Bool)=>aC y3 (R (T.b7 BMH)) (aJ [(true,aD)] (fG [aG true aD a0]) λ(y4:aB)=>aJ [(true,aD)] (GK [aG true aD y4, (aG true aN (10,a2))]) λ(y5:aB)=>BMP y5 a1 R)))
def AM1 ( a0 a1 a2 R):eG bY Tryz.prog ADG AVJ 8 66 (BC a0 a1 a2) R=AEK a0 a1 a2 R:=by kernel_rfl
noncomputable def WV (x:oZ):Option T:=match okX x.1 (10,x.2.2) with
 | true=>some (Sh.enc [(true,aD),(false,.int .i64)] (bJ x.1 x.2.1 (10,x.2.2)))
 | false=>none
def AC9 (x y:oZ) (h:BC x.1 x.2.1 x.2.2=BC y.1 y.2.1 y.2.2):x=y:=lI 10 x y h
noncomputable def AGI:List T->Option (T):=gA (λ(x:aB×aI×iII×iII×bQ×a8×bT×aQ×bM)=>BC x.1 x.2.1 x.2.2) WV
def APC (a0:aB) (a1:aI) (a2:iII×iII×bQ×a8×bT×aQ×bM):AGI (BC a0 a1 a2)=WV (a0,a1,a2):=fN (A:=(λ(x:aB×aI×iII×iII×bQ×a8×bT×aQ×bM)=>BC x.1 x.2.1 x.2.2)) AC9 (a0,a1,a2)
def A7Q (h:∀ (a0:aB) (a1:aI) (a2:iII×iII×bQ×a8×bT×aQ×bM) (r:T),WV (a0,a1,a2)=some r->(∀ t∈BC a0 a1 a2,Bd t)->AEK a0 a1 a2 (λy=>y=r)):aP Tryz.prog 66 AGI :=
 cQ (E:=ADG) (Hs:=AVJ) ATD aY a7 (aO rfl) 8 ⟨_,_,Tryz.func66,rfl⟩ λx r h1 h2=>by
  rw[AM1];exact h x.1 x.2.1 x.2.2 r h1 h2
def A6B:aP Tryz.prog 66 AGI:=A7Q λd m x r h hb=>by
 clear hb;obtain ⟨hp,rfl⟩:=j0 h;clear h;obtain ⟨hc,ho1,ho2⟩:=lL hp;have c:=dZ hc;have is:∀ {a:aB×Int},bJ d m (10,x)=a->Sh.enc [(true,aD),(false,.int .i64)] a=Sh.enc [(true,aD),(false,.int .i64)] (bJ d m (10,x)):=λh=>by rw[h]
 have hk:(1:Int)<=((10,x):aX).1/\((10,x):aX).1<=12:=by dsimp only;omega
 have h5:¬ ((10,x):aX).1=5:=by dsimp only;omega
 have lift:∀ {a:aB×Int},bJ d m (10,x)=a->∀ v,v=Sh.enc [(true,aD),(false,.int .i64)] a->v=Sh.enc [(true,aD),(false,.int .i64)] (bJ d m (10,x)):=λh v hv=>by rw[h];exact hv
 unfold AEK BMP BMH BME BMC BMB BMA BL8;have z1:GL [aG true aN (10,x)]=some (Sh.enc [(true,aN)] (bU (10,x))):=(APM ..).trans rfl;refine aF (s:=[(true,aN)]) (y:=bU (10,x)) z1 ?_;have z2:cE [aG true aN (10,x),aG true aN (bU (10,x))]=some (Sh.enc kO (nJ (10,x) (bU (10,x)))):=fH ..;refine aF (s:=kO) (y:=nJ (10,x) (bU (10,x))) z2 ?_;refine fK (λh=>lift (lJ hk h) _ rfl) λhE=>?_;refine aF (s:=[(true,aH),(false,.bool)]) (y:=found noPack (mZ d (fD (10,x)))) ((R1 ..).trans (ACF _ c.HA)) ?_;have ht:dQ d (10,x)=(found noPack (mZ d (fD (10,x)))).2:=(gQ ..).symm;refine fK (λh=>lift (sS hk h5 hE rfl (ht.trans h)) _ rfl) λh=>?_;have hth:dQ d (10,x) = !kL (10,x):=ht.trans h;have z4:zB [aG true aD d,aG true aN (10,x)]=some (Sh.enc kO (kQ d (10,x))):=(AG1 ..).trans (dP hc);refine aF (s:=kO) (y:=kQ d (10,x)) z4 ?_;refine vA (λh=>lift (CY hk h5 hE hth h) _ rfl) λhus=>?_;refine aF (s:=[(true,aD)]) (y:=d) ((gR ..).trans (dP hc)) ?_;have z3:GK [aG true aD d,aG true aN (10,x)]=some (Sh.enc [(true,aD)] (mI d (10,x))):=(API ..).trans (dP hc);refine aF (s:=[(true,aD)]) (y:=mI d (10,x)) z3 ?_;refine aF (s:=[(false,.int .i64)]) (y:=iP (mI d (10,x)) m) (fX ..) ?_;exact kX (λh=>lift ((eW hk h5 hE hth hus).trans (if_neg h)) _ rfl) λh=>lift ((eW hk h5 hE hth hus).trans (if_pos h)) _ rfl
def ifC {p q s:Prop} {i:Decidable p} {j:Decidable q} {k:Decidable s} {A B:Prop} (h1:p/\q/\s->A) (h2:¬ (p/\q/\s)->B):aC (@decide p i&&(@decide q j&&(@decide s k&&true))) A B:=by
 by_cases h:p/\q/\s
 ·rw[ai h.1,ai h.2.1,ai h.2.2];exact h1 h
 ·have:(@decide p i&&(@decide q j&&(@decide s k&&true)))=false:=by
   rw[Bool.eq_false_iff];intro e;simp only[ac,ah,and_true] at e;exact h e
  rw[this];exact h2 h
def zI {a b:bM}:(a.1=b.1/\a.2.1=b.2.1/\a.2.2=b.2.2)↔a=b:=by
 simp only[Prod.ext_iff]
def BD (a0:aB) (a1:aI) (a2:iII×iII×bQ×a8×bT×aQ×bM):List T:=[aG true aD a0,aG true aM a1,aG true aN (11,a2)]
noncomputable def ADH:Env:=Env.of [(93,.pure cE),(230,.pure uZ),(183,.pure jG),(69,.pure fG),(234,.pure qL),(105,.dup 3 40),(298,.grow 3 kC),(299,.grow 3 yZ),(65,.pure cT)]
def AVK:FuncId->Hint:=b6 278 [(2,.inv [.val 8 false (.int .i64)])] (b6 294 [(2,.inv [.val 8 false (.int .i64)])] (λ_=>bA))
def ATE:aV Tryz.prog ADH:=.cons jE (.cons AKC (.cons tG (.cons oD (.cons RF (aV.cons (x:=.dup 3 40) BW (.cons M9 (.cons M8 (.cons j8 (.nil _)))))))))
def BL9:List T:=[pPQ ({data:=#[]}),T.sl false [], T.sl false [],T.sl false [],T.sl false [], T.sl false []]
def BNE(R:T->Prop)(y10:Int):Prop:=R (T.b7 [T.agg BL9, pPP y10])
def BMQ(y3:aB):List (List T):=List.map aK.enc y3.2.2.1
def BM5(y3:aB):List (List T):=List.map aH.enc y3.2.2.2.2.1
def BM6(y3:aB):List (List T):=List.map bE.enc y3.2.2.2.1
def BM9(y3:aB):List (List T):=List.map bC.enc y3.2.1
def BNI(y5:aB)(y10:List bM):List T:=[pPQ y5.1, T.sl false (BM9 y5), T.sl false (BMQ y5), T.sl false (BM6 y5), T.sl false (BM5 y5), T.sl false (List.map aZ.enc y10)]
def BMK(y5:aB)(y10:List bM)(a1:aI)(R:T->Prop):Prop:=aJ BMA (cT [T.agg (BNI y5 y10), aG true aM a1]) λ(y11:Int)=>aC (!decide (y11=0)) (BNE R y11) (R (T.b7 [T.agg (BNI y5 y10), pPP 0]))
def BMO(a0:aB):List (List T):=List.map aZ.enc a0.2.2.2.2.2
def BMW(X2:Int×PUnit->Prop)(s3:Int×PUnit):Prop:=X2 (i64.wrap (s3.1+1),())
def BNT(a2:iII×iII×bQ×a8×bT×aQ×bM):List T:=[pPP a2.2.2.2.2.2.2.1, pPQ a2.2.2.2.2.2.2.2.1, pPQ a2.2.2.2.2.2.2.2.2]
def BMX(y5:aB)(a2:iII×iII×bQ×a8×bT×aQ×bM)(a1:aI)(R:T->Prop):Prop:=eR aZ (kC (BMO y5) [pPP (↑(BMO y5).length:Int), T.sl true [(BNT a2)]]) λ(y14:List bM)=>BMK y5 y14 a1 R
def BMR(y9:Bool)(s7:Int×PUnit)(y5:aB)(a2:iII×iII×bQ×a8×bT×aQ×bM)(a1:aI)(R:T->Prop)(X6:Int×PUnit->Prop):Prop:=aC y9 (aC (decide (s7.1<0)) (bR (((BMO y5).all λ(r:List T)=>decide (r.length=3)) && decide ((BMO y5).length*40 <= 140737488355328) && decide ((BMO y5).length<=140737488355328)) (BMX y5 a2 a1 R)) (bR (((BMO y5).all λ(r:List T)=>decide (r.length=3)) && decide ((BMO y5).length*40 <= 140737488355328) && decide ((BMO y5).length<=140737488355328)) (eR aZ (kC (BMO y5) [pPP s7.1, T.sl true [(BNT a2)]]) λ(y12:List bM)=>BMK y5 y12 a1 R))) (BMW X6 s7)
def BNP(y5:aB)(a2:iII×iII×bQ×a8×bT×aQ×bM)(a1:aI)(R:T->Prop):Prop:=bR (((BMO y5).all λ(r:List T)=>decide (r.length=3)) && decide ((BMO y5).length*40<=140737488355328) && decide ((BMO y5).length<=140737488355328)) (BMX y5 a2 a1 R)
def AEL(a0:aB)(a1:aI)(a2:iII×iII×bQ×a8×bT×aQ×bM)(R:T->Prop):Prop:=aJ [(true,aN)] (uZ [(aG true aN (11,a2))]) λ(y0:aX)=>aJ BMB (cE [(aG true aN (11,a2)), aG true aN y0]) λ(y1:Bool)=>aC (!y1) (R (T.b7 BMC)) (bB (Int×PUnit) (λX2 s3=>aC (decide (s3.1<(↑(BMO a0).length:Int))) (aR aZ (BMO a0) s3.1 λ(y4:bM)=>aC (decide (a2.2.2.2.2.2.2.1=y4.1) && (decide (a2.2.2.2.2.2.2.2.1=y4.2.1) && (decide (a2.2.2.2.2.2.2.2.2=y4.2.2)&&true))) (aC (decide (0<=s3.1)) (R (T.b7 BMI)) (aJ [(true,aD)] (fG [aG true aD a0]) λ(y5:aB)=>bB (Int×PUnit) (λX6 s7=>aC (decide (s7.1<(↑(BMO y5).length:Int))) (aR aZ (BMO y5) s7.1 λ(y8:bM)=>aJ BMB (qL [aG true aZ y8, aG true aZ a2.2.2.2.2.2.2]) λ(y9:Bool)=>BMR y9 s7 y5 a2 a1 R X6) (BNP y5 a2 a1 R)) (0,()))) (BMW X2 s3)) (aJ [(true,aD)] (fG [aG true aD a0]) λ(y16:aB)=>bB (Int×PUnit) (λX17 s18=>aC (decide (s18.1<(↑(BMO y16).length:Int))) (aR aZ (BMO y16) s18.1 λ(y19:bM)=>aJ BMB (qL [aG true aZ y19,aG true aZ a2.2.2.2.2.2.2]) λ(y20:Bool)=>BMR y20 s18 y16 a2 a1 R X17) (BNP y16 a2 a1 R)) (0,()))) (0,()))
def AM2 ( a0 a1 a2 R):eG bY Tryz.prog ADH AVK 8 66 (BD a0 a1 a2) R=AEL a0 a1 a2 R:=by kernel_rfl
noncomputable def WW (x:oZ):Option T:=match okX x.1 (11,x.2.2) with
 | true=>some (Sh.enc [(true,aD),(false,.int .i64)] (bJ x.1 x.2.1 (11,x.2.2)))
 | false=>none
def ADA (x y:oZ) (h:BD x.1 x.2.1 x.2.2=BD y.1 y.2.1 y.2.2):x=y:=lI 11 x y h
noncomputable def AGJ:List T->Option (T):=gA (λ(x:aB×aI×iII×iII×bQ×a8×bT×aQ×bM)=>BD x.1 x.2.1 x.2.2) WW
def APD (a0:aB) (a1:aI) (a2:iII×iII×bQ×a8×bT×aQ×bM):AGJ (BD a0 a1 a2)=WW (a0,a1,a2):=fN (A:=(λ(x:aB×aI×iII×iII×bQ×a8×bT×aQ×bM)=>BD x.1 x.2.1 x.2.2)) ADA (a0,a1,a2)
def A7R (h:∀ (a0:aB) (a1:aI) (a2:iII×iII×bQ×a8×bT×aQ×bM) (r:T),WW (a0,a1,a2)=some r->(∀ t∈BD a0 a1 a2,Bd t)->AEL a0 a1 a2 (λy=>y=r)):aP Tryz.prog 66 AGJ :=
 cQ (E:=ADH) (Hs:=AVK) ATE aY a7 (aO rfl) 8 ⟨_,_,Tryz.func66,rfl⟩ λx r h1 h2=>by
  rw[AM2];exact h x.1 x.2.1 x.2.2 r h1 h2
def A6C:aP Tryz.prog 66 AGJ:=A7R λd m x r h hb=>by
 clear hb;obtain ⟨hp,rfl⟩:=j0 h;clear h;obtain ⟨hc,ho1,ho2⟩:=lL hp;have c:=dZ hc;have is:∀ {a:aB×Int},bJ d m (11,x)=a->Sh.enc [(true,aD),(false,.int .i64)] a=Sh.enc [(true,aD),(false,.int .i64)] (bJ d m (11,x)):=λh=>by rw[h]
 have hk:(1:Int)<=((11,x):aX).1/\((11,x):aX).1<=12:=by dsimp only;omega
 have h5:¬ ((11,x):aX).1=5:=by dsimp only;omega
 have lift:∀ {a:aB×Int},bJ d m (11,x)=a->∀ v,v=Sh.enc [(true,aD),(false,.int .i64)] a->v=Sh.enc [(true,aD),(false,.int .i64)] (bJ d m (11,x)):=λh v hv=>by rw[h];exact hv
 unfold AEL BNP BMR BMX BNT BMW BMO BMK BNI BM9 BM6 BM5 BMQ BNE BMI BMC BMB BMA BL9 BL8;have z1:uZ [aG true aN (11,x)]=some (Sh.enc [(true,aN)] (bU (11,x))):=(R5 ..).trans rfl;refine aF (s:=[(true,aN)]) (y:=bU (11,x)) z1 ?_;have z2:cE [aG true aN (11,x),aG true aN (bU (11,x))]=some (Sh.enc kO (nJ (11,x) (bU (11,x)))):=fH ..;refine aF (s:=kO) (y:=nJ (11,x) (bU (11,x))) z2 ?_;refine fK (λh=>lift (lJ hk h) _ rfl) λhE=>?_;have hd:=wW (r:=aZ) (l:=d.2.2.2.2.2) (z:=3) (b:=40) rfl (dN c.r (by decide));have pos:∀ {k:Nat},¬ (0<=(k:Int))->False:=λh=>h (by omega);have hus:kQ d (11,x)=false:=rfl;have tail:∀ (hth:dQ d (11,x) = !kL (11,x)) (l:List bM) (hl:l=jX BM d.2.2.2.2.2 (nN (11,x))),aJ [(false,Sy.int IntKind.i64)] (cT [aG true aD (d.1,d.2.1,d.2.2.1,d.2.2.2.1,d.2.2.2.2.1,l),aG true aM m]) λ(y:Int) =>
   aC (!decide (y=0)) (Sh.enc [(true,aD),(false,.int .i64)] (qY,y)=Sh.enc [(true,aD),(false,.int .i64)] (bJ d m (11,x))) (Sh.enc [(true,aD),(false,.int .i64)] ((d.1,d.2.1,d.2.2.1,d.2.2.2.1,d.2.2.2.2.1,l),0)=Sh.enc [(true,aD),(false,.int .i64)] (bJ d m (11,x))):=λhth l hl=>by
  subst hl;refine aF (s:=[(false,.int .i64)]) (y:=iP (mI d (11,x)) m) (fX ..) ?_;exact kX (λh=>is ((eW hk h5 hE hth hus).trans (if_neg h))) λh=>is ((eW hk h5 hE hth hus).trans (if_pos h))
 refine cP (r:=aZ) (λn=>decide (n=nN (11,x))) (o7 c.r) (λX k y hlt hy hp hn=>?_) (λ_ h0=>?_)
 ·dsimp only;refine ifC (λh=>?_) λh=>hn (aj λe=>h (zI.2 e.symm));obtain ⟨_,h2⟩:=hp (ai (zI.1 h).symm);exact cA (λ_=>lift (sU hk h5 hE rfl h2) _ rfl) λh=>(pos h).elim
 ·have hth:dQ d (11,x) = !kL (11,x):=h0;refine aF (s:=[(true,aD)]) (y:=d) ((gR ..).trans (dP hc)) ?_;refine cP (r:=aZ) (λy=>BM y (nN (11,x))) (o7 c.r) (λX k y hk' hy hp hn=>?_) (λh _=>?_)
  ·dsimp only;refine aF (s:=kO) (y:=BM y (nN (11,x))) (AAM ..) ?_;refine vA (λh=>?_) λh=>hn h;obtain ⟨hi,_⟩:=hp h;refine cA (λh=>by omega) λ_=>⟨hd,?_⟩
   refine dW (r:=aZ) (l:=d.2.2.2.2.2.take k++nN (11,x)::d.2.2.2.2.2.drop k) (sG (r:=aZ) (x:=nN (11,x)) rfl (by omega) c.r (by decide)) _ ?_;exact tail hth _ (by unfold jX;rw[hi])
  ·refine ⟨hd,?_⟩;rw[show (((List.map aZ.enc d.2.2.2.2.2).length:Nat):Int)=((d.2.2.2.2.2.length:Nat):Int) by rw[ae]];refine dW (r:=aZ) (l:=d.2.2.2.2.2.take d.2.2.2.2.2.length++nN (11,x)::d.2.2.2.2.2.drop d.2.2.2.2.2.length) (sG (r:=aZ) (x:=nN (11,x)) rfl (al _) c.r (by decide)) _ ?_;exact tail hth _ (by unfold jX;rw[h])
def BE (a0:aB) (a1:aI) (a2:iII×iII×bQ×a8×bT×aQ×bM):List T:=[aG true aD a0,aG true aM a1,aG true aN (12,a2)]
noncomputable def ADI:Env:=Env.of [(93,.pure cE),(230,.pure uZ),(183,.pure jG),(69,.pure fG),(234,.pure qL),(105,.dup 3 40),(298,.grow 3 kC),(299,.grow 3 yZ),(65,.pure cT)]
def AVL:FuncId->Hint:=b6 278 [(2,.inv [.val 8 false (.int .i64)])] (b6 294 [(2,.inv [.val 8 false (.int .i64)])] (λ_=>bA))
def ATF:aV Tryz.prog ADI:=.cons jE (.cons AKC (.cons tG (.cons oD (.cons RF (aV.cons (x:=.dup 3 40) BW (.cons M9 (.cons M8 (.cons j8 (.nil _)))))))))
def BM0(y6:aB)(a1:aI)(R:T->Prop):Prop:=bR (((BMO y6).all λ(r:List T)=>decide (r.length=3)) && decide ((BMO y6).length*40 <= 140737488355328) && decide ((BMO y6).length<=140737488355328)) (aJ BMA (cT [aG true aD y6,aG true aM a1]) λ(y10:Int)=>aC (!decide (y10=0)) (BNE R y10) (R (T.b7 [aG true aD y6, pPP 0])))
def AEM(a0:aB)(a1:aI)(a2:iII×iII×bQ×a8×bT×aQ×bM)(R:T->Prop):Prop:=aJ [(true,aN)] (uZ [(aG true aN (12,a2))]) λ(y0:aX)=>aJ BMB (cE [(aG true aN (12,a2)), aG true aN y0]) λ(y1:Bool)=>aC (!y1) (R (T.b7 BMC)) (bB (Int×PUnit) (λX2 s3=>aC (decide (s3.1<(↑(BMO a0).length:Int))) (aR aZ (BMO a0) s3.1 λ(y4:bM)=>aC (decide (a2.2.2.2.2.2.2.1=y4.1) && (decide (a2.2.2.2.2.2.2.2.1=y4.2.1) && (decide (a2.2.2.2.2.2.2.2.2=y4.2.2)&&true))) (aC (!decide (0<=s3.1)) (R (T.b7 BME)) (aJ BMB (jG [aG true aD a0, (aG true aN (12,a2))]) λ(y5:Bool)=>aC y5 (R (T.b7 BMH)) (aJ [(true,aD)] (fG [aG true aD a0]) λ(y6:aB)=>bB (Int×PUnit) (λX7 s8=>aC (decide (s8.1<(↑(BMO y6).length:Int))) (aR aZ (BMO y6) s8.1 λ(y9:bM)=>aC (decide (y9.1=a2.2.2.2.2.2.2.1) && (decide (y9.2.1=a2.2.2.2.2.2.2.2.1) && (decide (y9.2.2=a2.2.2.2.2.2.2.2.2)&&true))) (aC (decide (s8.1<0)) (BM0 y6 a1 R) (bR (((BMO y6).all λ(r:List T)=>decide (r.length=3)) && decide ((BMO y6).length*40 <= 140737488355328) && decide ((BMO y6).length<=140737488355328)) (eR aZ (yZ (BMO y6) [pPP s8.1, pPP (i64.wrap (s8.1+1))]) λ(y11:List bM)=>BMK y6 y11 a1 R))) (BMW X7 s8)) (BM0 y6 a1 R)) (0,())))) (BMW X2 s3)) (R (T.b7 BME))) (0,()))
def AM3 ( a0 a1 a2 R):eG bY Tryz.prog ADI AVL 8 66 (BE a0 a1 a2) R=AEM a0 a1 a2 R:=by kernel_rfl
noncomputable def WX (x:oZ):Option T:=match okX x.1 (12,x.2.2) with
 | true=>some (Sh.enc [(true,aD),(false,.int .i64)] (bJ x.1 x.2.1 (12,x.2.2)))
 | false=>none
def ADB (x y:oZ) (h:BE x.1 x.2.1 x.2.2=BE y.1 y.2.1 y.2.2):x=y:=lI 12 x y h
noncomputable def AGK:List T->Option (T):=gA (λ(x:aB×aI×iII×iII×bQ×a8×bT×aQ×bM)=>BE x.1 x.2.1 x.2.2) WX
def APE (a0:aB) (a1:aI) (a2:iII×iII×bQ×a8×bT×aQ×bM):AGK (BE a0 a1 a2)=WX (a0,a1,a2):=fN (A:=(λ(x:aB×aI×iII×iII×bQ×a8×bT×aQ×bM)=>BE x.1 x.2.1 x.2.2)) ADB (a0,a1,a2)
def A7S (h:∀ (a0:aB) (a1:aI) (a2:iII×iII×bQ×a8×bT×aQ×bM) (r:T),WX (a0,a1,a2)=some r->(∀ t∈BE a0 a1 a2,Bd t)->AEM a0 a1 a2 (λy=>y=r)):aP Tryz.prog 66 AGK :=
 cQ (E:=ADI) (Hs:=AVL) ATF aY a7 (aO rfl) 8 ⟨_,_,Tryz.func66,rfl⟩ λx r h1 h2=>by
  rw[AM3];exact h x.1 x.2.1 x.2.2 r h1 h2
def A6D:aP Tryz.prog 66 AGK:=A7S λd m x r h hb=>by
 clear hb;obtain ⟨hp,rfl⟩:=j0 h;clear h;obtain ⟨hc,ho1,ho2⟩:=lL hp;have c:=dZ hc;have is:∀ {a:aB×Int},bJ d m (12,x)=a->Sh.enc [(true,aD),(false,.int .i64)] a=Sh.enc [(true,aD),(false,.int .i64)] (bJ d m (12,x)):=λh=>by rw[h]
 have hk:(1:Int)<=((12,x):aX).1/\((12,x):aX).1<=12:=by dsimp only;omega
 have h5:¬ ((12,x):aX).1=5:=by dsimp only;omega
 have lift:∀ {a:aB×Int},bJ d m (12,x)=a->∀ v,v=Sh.enc [(true,aD),(false,.int .i64)] a->v=Sh.enc [(true,aD),(false,.int .i64)] (bJ d m (12,x)):=λh v hv=>by rw[h];exact hv
 unfold AEM BM0 BMW BMO BMK BNI BM9 BM6 BM5 BMQ BNE BMH BME BMC BMB BMA BL9 BL8;have z1:uZ [aG true aN (12,x)]=some (Sh.enc [(true,aN)] (bU (12,x))):=(R5 ..).trans rfl;refine aF (s:=[(true,aN)]) (y:=bU (12,x)) z1 ?_;have z2:cE [aG true aN (12,x),aG true aN (bU (12,x))]=some (Sh.enc kO (nJ (12,x) (bU (12,x)))):=fH ..;refine aF (s:=kO) (y:=nJ (12,x) (bU (12,x))) z2 ?_;refine fK (λh=>lift (lJ hk h) _ rfl) λhE=>?_;have hd:=wW (r:=aZ) (l:=d.2.2.2.2.2) (z:=3) (b:=40) rfl (dN c.r (by decide));have pos:∀ {k:Nat},¬ (0<=(k:Int))->False:=λh=>h (by omega);have hus:kQ d (12,x)=false:=rfl;refine cP (r:=aZ) (λn=>decide (n=nN (12,x))) (o7 c.r) (λX k y hlt hy hp hn=>?_) (λ_ h0=>lift (sS hk h5 hE rfl h0) _ rfl);dsimp only;refine ifC (λh=>?_) λh=>hn (aj λe=>h (zI.2 e.symm));obtain ⟨_,h2⟩:=hp (ai (zI.1 h).symm);have hth:dQ d (12,x) = !kL (12,x):=h2;refine fK (λh=>(pos (of_decide_eq_false h)).elim) λ_=>?_;have z4:jG [aG true aD d,aG true aN (12,x)]=some (Sh.enc kO (kQ d (12,x))):=(IX ..).trans rfl;refine aF (s:=kO) (y:=kQ d (12,x)) z4 ?_;refine vA (λh=>absurd h (by rw[hus];decide)) λ_=>?_;refine aF (s:=[(true,aD)]) (y:=d) ((gR ..).trans (dP hc)) ?_;clear hp hn;refine cP (r:=aZ) (λn=>decide (n=nN (12,x))) (o7 c.r) (λX k y hk' hy hp hn=>?_) (λh h3=>?_)
 ·dsimp only;refine ifC (λh=>?_) λh=>hn (aj λe=>h (zI.2 e));obtain ⟨hi,_⟩:=hp (ai (zI.1 h));refine cA (λh=>by omega) λ_=>⟨hd,?_⟩
  have eD:mI d (12,x)=(d.1,d.2.1,d.2.2.1,d.2.2.2.1,d.2.2.2.2.1,d.2.2.2.2.2.take k++d.2.2.2.2.2.drop (k+1)):=by
   show (d.1,d.2.1,d.2.2.1,d.2.2.2.1,d.2.2.2.2.1,gV (λn=>decide (n=nN (12,x))) d.2.2.2.2.2)=_;unfold gV;rw[hi]
  refine dW (r:=aZ) (l:=d.2.2.2.2.2.take k++d.2.2.2.2.2.drop (k+1)) (F5 (r:=aZ) rfl hk' c.r) _ ?_;have z5:cT [aG true aD (d.1,d.2.1,d.2.2.1,d.2.2.2.1,d.2.2.2.2.1,d.2.2.2.2.2.take k++d.2.2.2.2.2.drop (k+1)),aG true aM m]=some (Sh.enc [(false,Sy.int .i64)] (iP (d.1,d.2.1,d.2.2.1,d.2.2.2.1,d.2.2.2.2.1,d.2.2.2.2.2.take k++d.2.2.2.2.2.drop (k+1)) m)):=fX ..;refine aF (s:=[(false,.int .i64)]) (y:=iP (mI d (12,x)) m) (by rw[eD];exact z5) ?_;exact kX (λh=>lift ((eW hk h5 hE hth hus).trans (if_neg h)) _ rfl) λh=>lift ((eW hk h5 hE hth hus).trans (if_pos h)) _ (by rw[eD];rfl)
 ·exfalso;have:=h2.symm.trans h3;cases this
end Go.Pv
namespace Go.Pv
open Go Go.Proofs IntKind
variable {α:Type}
def AJT {is:α->Bool} {f:α->α} {l:List α} {k:Nat} (hk:k<l.length) (h:l.findIdx is=k):JW is f l=l.set k (f l[k]):=by
 unfold JW;rw[h];refine List.ext_getElem (by simp) λi h1 h2=>?_;rw[List.getElem_modify,List.getElem_set];by_cases e:k=i
 ·subst e;simp
 ·simp[e]
def ALH {r:Sy} {l:List r.den} {k:Nat} {y:r.den} {row:List T} (h:row=r.enc y):(List.map r.enc l).set k row=List.map r.enc (l.set k y):=by rw[h,List.map_set]
def TF {α:Type}:∀ (s pre r:List α),r.length=s.length->bV (pre++r) pre.length s=pre++s
 | [],pre,[],_=>rfl
 | [],_,_::_,h=>by cases h
 | _::_,_,[],h=>by cases h
 | x::s,pre,a::r,h=>by
  unfold bV;rw[show (pre++a::r).set pre.length x=(pre++[x])++r by simp,show pre.length+1=(pre++[x]).length by simp,TF s (pre++[x]) r (by simpa using h)];simp
def AJA (r s:List α) (h:r.length=s.length):bV r 0 s=s:=TF s [] r h
def ACJ {d:aB} {id:iII} (h:(partOf d id).isSome=true):d.2.2.1≠[]:=by
 intro e;unfold partOf at h;rw[e] at h;cases h
def ACI {d:aB} {id:iII} (h:(partOf d id).isSome=true):d.2.2.1.any (λp=>cV id p)=true:=by
 unfold partOf at h;rw[List.find?_isSome] at h;obtain ⟨p,hp,h⟩:=h;exact List.any_eq_true.2 ⟨p,hp,h⟩
def S7 {d:aB} {n:Nat} (h:d.2.2.1≠[]) (hn:n=aK.w):(!(List.map aK.enc d.2.2.1).isEmpty&&eQ n (List.map aK.enc d.2.2.1))=true:=by
 subst hn;rw[ac];refine ⟨?_,sR ..⟩;cases hl:d.2.2.1 with
 | nil=>exact absurd hl h
 | cons a l=>rfl
def KJ (a0:aB) (a1:aI) (a2:iII×iII×bQ×a8×bT×aQ×bM):List T:=[aG true aD a0,aG true aM a1,aG true aN (6,a2)]
noncomputable def ASC:Env:=Env.of [(93,.pure cE),(189,.pure SB),(94,.pure lK),(183,.pure jG),(108,.pure iG),(69,.part 2 NM),(65,.pure cT)]
def A84:FuncId->Hint:=b6 185 [(2,.inv [.val 8 false (.int .i64)])] (λ_=>bA)
def A31:aV Tryz.prog ASC:=.cons jE (.cons BCC (.cons C9 (.cons tG (.cons uV (.cons AJ7 (.cons j8 (.nil _)))))))
def BNL(y3:aB)(y12:List T)(a2:iII×iII×bQ×a8×bT×aQ×bM):List T:=[pPQ y3.1, T.sl false (BM9 y3), T.sl false ((BMQ y3).set (-1).toNat (bV y12 3 [pPQ a2.2.1])), T.sl false (BM6 y3), T.sl false (BM5 y3), T.sl false (BMO y3)]
def BNQ(y3:aB)(s5:Int×PUnit)(y9:List T)(a2:iII×iII×bQ×a8×bT×aQ×bM):List T:=[pPQ y3.1, T.sl false (BM9 y3), T.sl false ((BMQ y3).set (Int.toNat s5.1) (bV y9 3 [pPQ a2.2.1])), T.sl false (BM6 y3), T.sl false (BM5 y3), T.sl false (BMO y3)]
def AT8(a0:aB)(a1:aI)(a2:iII×iII×bQ×a8×bT×aQ×bM)(R:T->Prop):Prop:=aJ [(true,aN)] (SB [(aG true aN (6,a2))]) λ(y0:aX)=>aJ BMB (cE [(aG true aN (6,a2)), aG true aN y0]) λ(y1:Bool)=>aC (!y1) (R (T.b7 BMC)) (aJ BMG (lK [aG true aD a0,pPQ a2.1]) λ(y2:a8×Bool)=>aC (!y2.2) (R (T.b7 BME)) (aJ [(true,aD)] (NM [aG true aD a0]) λ(y3:aB)=>bR (!(BMQ y3).isEmpty && eQ (1+(1+(1+(1+(1+(1+(1+1+(1+(1+(1+(1+(1+1)+(1+(1+1)+1)))))))))))) (BMQ y3)) (bB (Int×PUnit) (λX4 s5=>aC (decide (s5.1<(↑(BMQ y3).length:Int))) (aR aK (BMQ y3) s5.1 λ(y6:a8)=>iJ aK (BMQ y3) (Int.toNat s5.1) 0 λ(y7:a8)=>aC (decide (y7.1=a2.1)) (aR aK (BMQ y3) s5.1 λ(y8:a8)=>EX (BMQ y3) (Int.toNat s5.1) λ(y9:List T)=>bR (decide (4<=y9.length)) (aJ BMA (cT [T.agg (BNQ y3 s5 y9 a2), aG true aM a1]) λ(y10:Int)=>aC (!decide (y10=0)) (BNE R y10) (R (T.b7 [T.agg (BNQ y3 s5 y9 a2), pPP 0])))) (BMW X4 s5)) (aR aK (BMQ y3) (-1) λ(y11:a8)=>EX (BMQ y3) (-1).toNat λ(y12:List T)=>bR (decide (4<=y12.length)) (aJ BMA (cT [T.agg (BNL y3 y12 a2), aG true aM a1]) λ(y13:Int)=>aC (!decide (y13=0)) (BNE R y13) (R (T.b7 [T.agg (BNL y3 y12 a2), pPP 0]))))) (0,()))))
def AT9 ( a0 a1 a2 R):eG bY Tryz.prog ASC A84 8 66 (KJ a0 a1 a2) R=AT8 a0 a1 a2 R:=by kernel_rfl
noncomputable def AIW (x:oZ):Option T:=match okX x.1 (6,x.2.2) with
 | true=>some (Sh.enc [(true,aD),(false,.int .i64)] (bJ x.1 x.2.1 (6,x.2.2)))
 | false=>none
def ALU (x y:oZ) (h:KJ x.1 x.2.1 x.2.2=KJ y.1 y.2.1 y.2.2):x=y:=lI 6 x y h
noncomputable def AYL:List T->Option (T):=gA (λ(x:aB×aI×iII×iII×bQ×a8×bT×aQ×bM)=>KJ x.1 x.2.1 x.2.2) AIW
def AYM (a0:aB) (a1:aI) (a2:iII×iII×bQ×a8×bT×aQ×bM):AYL (KJ a0 a1 a2)=AIW (a0,a1,a2):=fN (A:=(λ(x:aB×aI×iII×iII×bQ×a8×bT×aQ×bM)=>KJ x.1 x.2.1 x.2.2)) ALU (a0,a1,a2)
def BDT (h:∀ (a0:aB) (a1:aI) (a2:iII×iII×bQ×a8×bT×aQ×bM) (r:T),AIW (a0,a1,a2)=some r->(∀ t∈KJ a0 a1 a2,Bd t)->AT8 a0 a1 a2 (λy=>y=r)):aP Tryz.prog 66 AYL :=
 cQ (E:=ASC) (Hs:=A84) A31 aY a7 (aO rfl) 8 ⟨_,_,Tryz.func66,rfl⟩ λx r h1 h2=>by
  rw[AT9];exact h x.1 x.2.1 x.2.2 r h1 h2
def BBN:aP Tryz.prog 66 AYL:=BDT λd m x r h hb=>by
 clear hb;obtain ⟨hp,rfl⟩:=j0 h;clear h;obtain ⟨hc,ho1,ho2⟩:=lL hp;have c:=dZ hc;have hk:(1:Int)<=((6,x):aX).1/\((6,x):aX).1<=12:=by dsimp only;omega
 have lift:∀ {a:aB×Int},bJ d m (6,x)=a->∀ v,v=Sh.enc [(true,aD),(false,.int .i64)] a->v=Sh.enc [(true,aD),(false,.int .i64)] (bJ d m (6,x)):=λh v hv=>by rw[h];exact hv
 unfold AT8 BNQ BNL BMW BMO BM9 BM6 BM5 BMQ BNE BMG BME BMC BMB BMA BL9 BL8;have z1:SB [aG true aN (6,x)]=some (Sh.enc [(true,aN)] (bU (6,x))):=(AZB ..).trans rfl;refine aF (s:=[(true,aN)]) (y:=bU (6,x)) z1 ?_;have z2:cE [aG true aN (6,x),aG true aN (bU (6,x))]=some (Sh.enc kO (nJ (6,x) (bU (6,x)))):=fH ..;refine aF (s:=kO) (y:=nJ (6,x) (bU (6,x))) z2 ?_;refine fK (λh=>lift (lJ hk h) _ rfl) λhE=>?_;have h5:¬ ((6,x):aX).1=5:=by dsimp only;omega
 refine aF (s:=[(true,aK),(false,.bool)]) (y:=found dV (partOf d (fD (6,x)))) ((qM ..).trans (by unfold lF;dsimp only;rw[c.I4];rfl)) ?_;have ht:dQ d (6,x)=(found dV (partOf d (fD (6,x)))).2:=(gQ ..).symm;refine fK (λh=>lift (sS hk h5 hE rfl (ht.trans h)) _ rfl) λh=>?_;have hth:dQ d (6,x) = !kL (6,x):=ht.trans h;have hus:kQ d (6,x)=false:=rfl;have hso:(partOf d (fD (6,x))).isSome=true:=(gQ ..).symm.trans h;refine aF (s:=[(true,aD)]) (y:=d) ((gR ..).trans (dP hc)) ⟨S7 (ACJ hso) rfl,?_⟩;refine cP (r:=aK) (λp=>cV (fD (6,x)) p) (o7 c.p) (λX k y hlt hy hp hn=>?_) (λh0 ha=>absurd (ACI hso) (by rw[ha];exact Bool.false_ne_true));rw[show Int.toNat (k:Int)=k from rfl,iK (r:=aK) hlt];refine cA (λhe=>?_) λhe=>hn (by subst hy;exact aj he);obtain ⟨hidx,_⟩:=hp (by subst hy;exact ai he);rw[bD (r:=aK) hlt,pP (r:=aK) hlt];refine ⟨by rw[Sy.cW];rfl,?_⟩;have hD:mI d (6,x)=(d.1,d.2.1,d.2.2.1.set k (AHI d.2.2.1[k] (eTo (6,x))),d.2.2.2):=by
  have e:mI d (6,x)=(d.1,d.2.1,JW (cV (fD (6,x))) (λp=>AHI p (eTo (6,x))) d.2.2.1,d.2.2.2):=rfl;rw[e,AJT hlt hidx]
 have hs:(List.map aK.enc d.2.2.1).set k (bV (aK.enc d.2.2.1[k]) 3 [pPQ x.2.1])=List.map aK.enc (d.2.2.1.set k (AHI d.2.2.1[k] (eTo (6,x)))):=ALH (r:=aK) rfl;rw[hs];have z3:=fX (a0:=mI d (6,x)) (a1:=m);have hchk:=eW (m:=m) hk h5 hE hth hus;rw[hD] at z3 hchk;refine aF (s:=[(false,.int .i64)]) z3 ?_;exact kX (λh=>lift (hchk.trans (if_neg h)) _ rfl) λh=>lift (hchk.trans (if_pos h)) _ rfl
def KI (a0:aB) (a1:aI) (a2:iII×iII×bQ×a8×bT×aQ×bM):List T:=[aG true aD a0,aG true aM a1,aG true aN (5,a2)]
noncomputable def ASB:Env:=Env.of [(93,.pure cE),(181,.pure SA),(94,.pure lK),(183,.pure jG),(108,.pure iG),(69,.part 2 NM),(65,.pure cT)]
def A83:FuncId->Hint:=b6 185 [(2,.inv [.val 8 false (.int .i64)])] (λ_=>bA)
def A30:aV Tryz.prog ASB:=.cons jE (.cons BCB (.cons C9 (.cons tG (.cons uV (.cons AJ7 (.cons j8 (.nil _)))))))
def BML(y9:a8)(y11:Int):List T:=[pPQ y9.1, pPP (i64.wrap (y11+1)), pPP y9.2.2.1, pPQ y9.2.2.2.1, pPQ y9.2.2.2.2.1, pPP y9.2.2.2.2.2.1, T.sl false (List.map aA.enc y9.2.2.2.2.2.2.1.1), T.sl false (List.map aA.li.enc y9.2.2.2.2.2.2.1.2), pPQ y9.2.2.2.2.2.2.2.1, pPP y9.2.2.2.2.2.2.2.2.1, pPP y9.2.2.2.2.2.2.2.2.2.1, pPP y9.2.2.2.2.2.2.2.2.2.2.1.1, pPP y9.2.2.2.2.2.2.2.2.2.2.1.2.1, pPP y9.2.2.2.2.2.2.2.2.2.2.1.2.2, pPP y9.2.2.2.2.2.2.2.2.2.2.2.1.1, pPP y9.2.2.2.2.2.2.2.2.2.2.2.1.2.1, pPP y9.2.2.2.2.2.2.2.2.2.2.2.1.2.2, pPP y9.2.2.2.2.2.2.2.2.2.2.2.2]
def BNJ(y4:aB)(y19:List T)(y15:a8)(y17:Int):List T:=[pPQ y4.1, T.sl false (BM9 y4), T.sl false ((BMQ y4).set (-1).toNat (bV y19 0 (BML y15 y17))), T.sl false (BM6 y4), T.sl false (BM5 y4), T.sl false (BMO y4)]
def BNO(y4:aB)(s6:Int×PUnit)(y13:List T)(y9:a8)(y11:Int):List T:=[pPQ y4.1, T.sl false (BM9 y4), T.sl false ((BMQ y4).set (Int.toNat s6.1) (bV y13 0 (BML y9 y11))), T.sl false (BM6 y4), T.sl false (BM5 y4), T.sl false (BMO y4)]
def AT6(a0:aB)(a1:aI)(a2:iII×iII×bQ×a8×bT×aQ×bM)(R:T->Prop):Prop:=aJ [(true,aN)] (SA [(aG true aN (5,a2))]) λ(y0:aX)=>aJ BMB (cE [(aG true aN (5,a2)), aG true aN y0]) λ(y1:Bool)=>aC (!y1) (R (T.b7 BMC)) (aC (!decide (a2.2.2.2.1.2.1=0)) (R (T.b7 BMC)) (aJ BMG (lK [aG true aD a0,pPQ a2.2.2.2.1.1]) λ(y2:a8×Bool)=>aC (!y2.2) (R (T.b7 BME)) (aJ BMG (lK [aG true aD a0,pPQ a2.2.2.2.1.1]) λ(y3:a8×Bool)=>aC (!decide (y3.1.2.2.2.1=a2.2.2.2.1.2.2.2.1)) (R (T.b7 BMC)) (aJ [(true,aD)] (NM [aG true aD a0]) λ(y4:aB)=>bR (!(BMQ y4).isEmpty && eQ (1 + (1+(1+(1+(1+(1+(1+1+(1+(1+(1+(1+(1+1)+(1+(1+1)+1)))))))))))) (BMQ y4)) (bB (Int×PUnit) (λX5 s6=>aC (decide (s6.1<(↑(BMQ y4).length:Int))) (aR aK (BMQ y4) s6.1 λ(y7:a8)=>iJ aK (BMQ y4) (Int.toNat s6.1) 0 λ(y8:a8)=>aC (decide (y8.1=a2.2.2.2.1.1)) (aJ [(true,aK)] (iG [aG true aK a2.2.2.2.1]) λ(y9:a8)=>aR aK (BMQ y4) s6.1 λ(y10:a8)=>iJ (Sy.int IntKind.i64) (BMQ y4) (Int.toNat s6.1) 1 λ(y11:Int)=>aR aK (BMQ y4) s6.1 λ(y12:a8)=>EX (BMQ y4) (Int.toNat s6.1) λ(y13:List T)=>bR (decide (18<=y13.length)) (aJ BMA (cT [T.agg (BNO y4 s6 y13 y9 y11), aG true aM a1]) λ(y14:Int)=>aC (!decide (y14=0)) (R (T.b7 [T.agg [pPQ ({data:=#[]}), T.sl false [],T.sl false [],T.sl false [], T.sl false [],T.sl false []], pPP y14])) (R (T.b7 [T.agg (BNO y4 s6 y13 y9 y11), pPP 0])))) (BMW X5 s6)) (aJ [(true,aK)] (iG [aG true aK a2.2.2.2.1]) λ(y15:a8)=>aR aK (BMQ y4) (-1) λ(y16:a8)=>iJ (Sy.int IntKind.i64) (BMQ y4) (-1).toNat 1 λ(y17:Int)=>aR aK (BMQ y4) (-1) λ(y18:a8)=>EX (BMQ y4) (-1).toNat λ(y19:List T)=>bR (decide (18<=y19.length)) (aJ BMA (cT [T.agg (BNJ y4 y19 y15 y17), aG true aM a1]) λ(y20:Int)=>aC (!decide (y20=0)) (BNE R y20) (R (T.b7 [T.agg (BNJ y4 y19 y15 y17), pPP 0]))))) (0,()))))))
def AT7 ( a0 a1 a2 R):eG bY Tryz.prog ASB A83 8 66 (KI a0 a1 a2) R=AT6 a0 a1 a2 R:=by kernel_rfl
noncomputable def AIV (x:oZ):Option T:=match okX x.1 (5,x.2.2) with
 | true=>some (Sh.enc [(true,aD),(false,.int .i64)] (bJ x.1 x.2.1 (5,x.2.2)))
 | false=>none
def ALT (x y:oZ) (h:KI x.1 x.2.1 x.2.2=KI y.1 y.2.1 y.2.2):x=y:=lI 5 x y h
noncomputable def AYJ:List T->Option (T):=gA (λ(x:aB×aI×iII×iII×bQ×a8×bT×aQ×bM)=>KI x.1 x.2.1 x.2.2) AIV
def AYK (a0:aB) (a1:aI) (a2:iII×iII×bQ×a8×bT×aQ×bM):AYJ (KI a0 a1 a2)=AIV (a0,a1,a2):=fN (A:=(λ(x:aB×aI×iII×iII×bQ×a8×bT×aQ×bM)=>KI x.1 x.2.1 x.2.2)) ALT (a0,a1,a2)
def BDS (h:∀ (a0:aB) (a1:aI) (a2:iII×iII×bQ×a8×bT×aQ×bM) (r:T),AIV (a0,a1,a2)=some r->(∀ t∈KI a0 a1 a2,Bd t)->AT6 a0 a1 a2 (λy=>y=r)):aP Tryz.prog 66 AYJ :=
 cQ (E:=ASB) (Hs:=A83) A30 aY a7 (aO rfl) 8 ⟨_,_,Tryz.func66,rfl⟩ λx r h1 h2=>by
  rw[AT7];exact h x.1 x.2.1 x.2.2 r h1 h2
def BBM:aP Tryz.prog 66 AYJ:=BDS λd m x r h hb=>by
 clear hb;obtain ⟨hp,rfl⟩:=j0 h;clear h;obtain ⟨hc,ho1,ho2⟩:=lL hp;have c:=dZ hc;have hk:(1:Int)<=((5,x):aX).1/\((5,x):aX).1<=12:=by dsimp only;omega
 have lift:∀ {a:aB×Int},bJ d m (5,x)=a->∀ v,v=Sh.enc [(true,aD),(false,.int .i64)] a->v=Sh.enc [(true,aD),(false,.int .i64)] (bJ d m (5,x)):=λh v hv=>by rw[h];exact hv
 unfold AT6 BNO BNJ BMW BMO BML BM9 BM6 BM5 BMQ BNE BMG BME BMC BMB BMA BL9 BL8;have z1:SA [aG true aN (5,x)]=some (Sh.enc [(true,aN)] (bU (5,x))):=(AZA ..).trans rfl;refine aF (s:=[(true,aN)]) (y:=bU (5,x)) z1 ?_;have z2:cE [aG true aN (5,x),aG true aN (bU (5,x))]=some (Sh.enc kO (nJ (5,x) (bU (5,x)))):=fH ..;refine aF (s:=kO) (y:=nJ (5,x) (bU (5,x))) z2 ?_;refine fK (λh=>lift (lJ hk h) _ rfl) λhE=>?_;have hr:¬ (¬ (1<=((5,x):aX).1/\((5,x):aX).1<=12)):=λh=>h hk;refine kX (λh=>lift (by unfold bJ;rw[if_neg hr,if_pos (.inr ⟨rfl,h⟩)]) _ rfl) λhrev=>?_;have hpl:¬ (nJ (5,x) (bU (5,x))=false\/(((5,x):aX).1=5/\¬ (cI (5,x)).2.1=0)):=λh=>h.elim (λe=>by rw[hE] at e;cases e) λe=>e.2 hrev;refine aF (s:=[(true,aK),(false,.bool)]) (y:=found dV (partOf d (cI (5,x)).1)) ((qM ..).trans (by unfold lF;dsimp only;rw[c.I4];rfl)) ?_;have ht:dQ d (5,x)=(found dV (partOf d (cI (5,x)).1)).2:=(gQ ..).symm;have had:¬ (kL (5,x)=true/\dQ d (5,x)=true):=λh=>by cases h.1
 refine fK (λh=>lift (by unfold bJ;rw[if_neg hr,if_neg hpl,if_neg had,if_pos ⟨rfl,ht.trans h⟩]) _ rfl) λh=>?_;have hno:¬ (kL (5,x)=false/\dQ d (5,x)=false):=λe=>by rw[ht,h] at e;cases e.2
 have hso:(partOf d (cI (5,x)).1).isSome=true:=(gQ ..).symm.trans h;refine aF (s:=[(true,aK),(false,.bool)]) (y:=found dV (partOf d (cI (5,x)).1)) ((qM ..).trans (by unfold lF;dsimp only;rw[c.I4];rfl)) ?_;refine kX (λh=>lift (by unfold bJ;rw[if_neg hr,if_neg hpl,if_neg had,if_neg hno,if_pos ⟨rfl,h⟩]) _ rfl) λhnode=>?_;have hnd:¬ (((5,x):aX).1=5/\¬ nL (found dV (partOf d (cI (5,x)).1)).1=nL (cI (5,x))):=λe=>e.2 hnode;have hchk:bJ d m (5,x)=if iP (mI d (5,x)) m=0 then (mI d (5,x),0) else (qY,iP (mI d (5,x)) m):=by
  have hu:¬ kQ d (5,x)=true:=λh=>by cases h
  unfold bJ;rw[if_neg hr,if_neg hpl,if_neg had,if_neg hno,if_neg hnd,if_neg hu]
 refine aF (s:=[(true,aD)]) (y:=d) ((gR ..).trans (dP hc)) ⟨S7 (ACJ hso) rfl,?_⟩;refine cP (r:=aK) (λp=>cV (cI (5,x)).1 p) (o7 c.p) (λX k y hlt hy hp hn=>?_) (λh0 ha=>absurd (ACI hso) (by rw[ha];exact Bool.false_ne_true));rw[show Int.toNat (k:Int)=k from rfl,iK (r:=aK) hlt];refine cA (λhe=>?_) λhe=>hn (by subst hy;exact aj he);obtain ⟨hidx,_⟩:=hp (by subst hy;exact ai he);refine aF (s:=[(true,aK)]) (y:=cI (5,x)) ((uX ..).trans (by unfold iZ;rw[ho1])) ?_;rw[bD (r:=aK) hlt];refine ⟨aK.enc d.2.2.1[k],(d.2.2.1[k]).2.1,yS.2 (List.getElem?_eq_getElem hlt),by rw[Sy.cW];decide,rfl,?_⟩;dsimp only;rw[bD (r:=aK) hlt,pP (r:=aK) hlt];refine ⟨by rw[Sy.cW];rfl,?_⟩;have hD:mI d (5,x)=(d.1,d.2.1,d.2.2.1.set k (AH7 (cI (5,x)) d.2.2.1[k]),d.2.2.2):=by
  have e:mI d (5,x)=(d.1,d.2.1,JW (cV (cI (5,x)).1) (AH7 (cI (5,x))) d.2.2.1,d.2.2.2):=rfl;rw[e,AJT hlt hidx]
 generalize hrow:bV (aK.enc d.2.2.1[k]) 0 _=row;have hs:(List.map aK.enc d.2.2.1).set k row=List.map aK.enc (d.2.2.1.set k (AH7 (cI (5,x)) d.2.2.1[k])):=ALH (r:=aK) (by rw[<-hrow,AJA _ _ (by rw[Sy.cW];rfl)];rfl);rw[hs];have z3:=fX (a0:=mI d (5,x)) (a1:=m);rw[hD] at z3 hchk;refine aF (s:=[(false,.int .i64)]) z3 ?_;exact kX (λh=>lift (hchk.trans (if_neg h)) _ rfl) λh=>lift (hchk.trans (if_pos h)) _ rfl
end Go.Pv
namespace Go.Pv
open Go Go.Proofs IntKind
end Go.Pv
namespace Go.Pv
open Go Go.Proofs IntKind
noncomputable def BFV:Env:=Env.of []
def BGH:FuncId->Hint:=λ_=>bA
def A3V:aV Tryz.prog BFV:=.nil _
def ATX(a0:aB)(a1:aI)(a2:aX)(R:T->Prop):Prop:=aC (decide (a2.1=1)) (aC (decide (a2.1=1)) (q8 72) (q8 72)) (aC (decide (a2.1=2)) (aC (decide (a2.1=1)) (q8 72) (q8 72)) (aC (decide (a2.1=3)) (aC (decide (a2.1=3)) (q8 72) (q8 72)) (aC (decide (a2.1=4)) (aC (decide (a2.1=3)) (q8 72) (q8 72)) (aC (decide (a2.1=5)) (q8 72) (aC (decide (a2.1=6)) (q8 72) (aC (decide (a2.1=7)) (aC (decide (a2.1=7)) (q8 72) (q8 72)) (aC (decide (a2.1=8)) (aC (decide (a2.1=7)) (q8 72) (q8 72)) (aC (decide (a2.1=9)) (aC (decide (a2.1=9)) (q8 72) (q8 72)) (aC (decide (a2.1=10)) (aC (decide (a2.1=9)) (q8 72) (q8 72)) (aC (decide (a2.1=11)) (q8 72) (aC (decide (a2.1=12)) (q8 72) (R (T.b7 [T.agg BL8, pPP 10])))))))))))))
abbrev A2A:Sh:=[(true,aD),(true,aM),(true,aN)]
def HX (x:aB×aI×aX):Option T:=if 1<=x.2.2.1/\x.2.2.1<=12 then none else some (Sh.enc [(true,aD),(false,.int .i64)] (qY,10))
noncomputable def AX9:List T->Option T:=gS A2A HX
def AYA {a0 a1 a2}:AX9 [aG true aD a0,aG true aM a1,aG true aN a2]=HX (a0,a1,a2):=bI (s:=A2A) rfl (a0,a1,a2) rfl
def BDN:Of3 Tryz.prog 66 AX9 HX (cC A2A) ATX:=QO (a1:=(true,aD)) (a2:=(true,aM)) (a3:=(true,aN)) (sp:=HX) (F:=ATX) (Hs:=BGH) (f:=66) (k:=2) A3V aY a7 (aO rfl) ⟨_,_,Tryz.func66,rfl⟩ rfl λ_ _ _ _=>by kernel_rfl
def BBI:aP Tryz.prog 66 AX9:=BDN λd m x r h hb=>by
 clear hb;unfold HX at h;split at h
 ·cases h
 rename_i hk;cases h;have hk:¬ (1<=x.1/\x.1<=12):=hk;unfold ATX BL8;refine cA (λh=>absurd (by omega) hk) λ_=>?_;refine cA (λh=>absurd (by omega) hk) λ_=>?_;refine cA (λh=>absurd (by omega) hk) λ_=>?_;refine cA (λh=>absurd (by omega) hk) λ_=>?_;refine cA (λh=>absurd (by omega) hk) λ_=>?_;refine cA (λh=>absurd (by omega) hk) λ_=>?_;refine cA (λh=>absurd (by omega) hk) λ_=>?_;refine cA (λh=>absurd (by omega) hk) λ_=>?_;refine cA (λh=>absurd (by omega) hk) λ_=>?_;refine cA (λh=>absurd (by omega) hk) λ_=>?_;refine cA (λh=>absurd (by omega) hk) λ_=>?_;refine cA (λh=>absurd (by omega) hk) λ_=>?_;rfl
def JS (x:aB×aI×aX):List T:=[aG true aD x.1,aG true aM x.2.1,aG true aN x.2.2]
noncomputable def E0 (x:aB×aI×aX):Option T:=match okX x.1 x.2.2 with
 | true=>some (Sh.enc [(true,aD),(false,.int .i64)] (bJ x.1 x.2.1 x.2.2))
 | false=>none
noncomputable def DF:List T->Option T:=gA JS E0
def XS (x y:aB×aI×aX) (h:JS x=JS y):x=y:=by
 simp only[JS,List.cons.injEq,and_true] at h;obtain ⟨h1,h2,h3⟩:=h;exact Prod.ext (mN (r:=aD) rfl h1) (Prod.ext (mN (r:=aM) rfl h2) (mN (r:=aN) rfl h3))
def AGL (d:aB) (m:aI) (x:aX):DF [aG true aD d,aG true aM m,aG true aN x]=E0 (d,m,x):=fN XS (d,m,x)
def AXT:aP Tryz.prog 66 DF:=⟨AXS.entry,λw own args vs r hG ho ha hg=>by
 obtain ⟨⟨d,m,k,x⟩,rfl,h⟩:=U4 hg;unfold E0 at h;dsimp only at h;clear hg;by_cases c1:k=1
 ·subst c1;exact AXS.calls w own _ vs r hG ho ha ((AYC d m x).trans h)
 by_cases c2:k=2
 ·subst c2;exact BBJ.calls w own _ vs r hG ho ha ((AYE d m x).trans h)
 by_cases c3:k=3
 ·subst c3;exact BBK.calls w own _ vs r hG ho ha ((AYG d m x).trans h)
 by_cases c4:k=4
 ·subst c4;exact BBL.calls w own _ vs r hG ho ha ((AYI d m x).trans h)
 by_cases c5:k=5
 ·subst c5;exact BBM.calls w own _ vs r hG ho ha ((AYK d m x).trans h)
 by_cases c6:k=6
 ·subst c6;exact BBN.calls w own _ vs r hG ho ha ((AYM d m x).trans h)
 by_cases c7:k=7
 ·subst c7;exact BBO.calls w own _ vs r hG ho ha ((AYO d m x).trans h)
 by_cases c8:k=8
 ·subst c8;exact BBP.calls w own _ vs r hG ho ha ((AYQ d m x).trans h)
 by_cases c9:k=9
 ·subst c9;exact BBQ.calls w own _ vs r hG ho ha ((AYS d m x).trans h)
 by_cases c10:k=10
 ·subst c10;exact A6B.calls w own _ vs r hG ho ha ((APC d m x).trans h)
 by_cases c11:k=11
 ·subst c11;exact A6C.calls w own _ vs r hG ho ha ((APD d m x).trans h)
 by_cases c12:k=12
 ·subst c12;exact A6D.calls w own _ vs r hG ho ha ((APE d m x).trans h)
 have hn:¬ (1<=k/\k<=12):=by omega
 have hr:some (Sh.enc [(true,aD),(false,.int .i64)] (bJ d m (k,x)))=some r:=by
  split at h
  ·exact h
  ·cases h
 refine BBI.calls w own _ vs r hG ho ha ((AYA (a0:=d) (a1:=m) (a2:=(k,x))).trans ?_);rw[<-hr];unfold HX bJ;rw[if_neg hn,if_pos hn]⟩
end Go.Pv
namespace Go.Pv
open Go Go.Proofs IntKind
structure JF (b:Nat) (d:aB):Prop where
 n:d.2.1.length<=b
 p:d.2.2.1.length<=b
 s:d.2.2.2.1.length<=b
 k:d.2.2.2.2.1.length<=b
 r:d.2.2.2.2.2.length<=b
abbrev BGF (d:aB):Prop:=JF 40 d
def AXQ {d:aB} (h:few d 40=true):BGF d:=by
 simp only[few,ac,ah] at h;obtain ⟨⟨⟨⟨⟨a,b⟩,c⟩,e⟩,f⟩,_⟩:=h;exact ⟨by omega,by omega,by omega,by omega,by omega⟩
def BER {e:aB} (hP:∀ q∈e.2.2.1,fL q=true) (hK:∀ q∈e.2.2.2.2.1,eT q=true) (n:e.2.1.length<=1000) (p:e.2.2.1.length<=1000) (s:e.2.2.2.1.length<=1000) (k:e.2.2.2.2.1.length<=1000) (r:e.2.2.2.2.2.length<=1000):vG e=true:=by
 unfold vG I4 HA;rw[List.all_eq_true.2 hP,List.all_eq_true.2 hK,ai n,ai p,ai s,ai k,ai r];rfl
variable {α:Type}
def A5P {p:α->Bool} {f:α->α} {l:List α}:(JW p f l).length=l.length:=by unfold JW;exact List.length_modify ..
def UQ {α:Type} {p:α->Bool} {f:α->α}:∀ {l:List α} {a:α},a∈JW p f l->a∈l\/∃ b∈l,a=f b
 | [],_,h=>by simp[JW] at h
 | z::l,a,h=>by
  unfold JW at h;rw[List.findIdx_cons] at h;cases hz:p z with
  | true =>
   rw[hz] at h;rcases List.mem_cons.1 (show a∈f z::l from h) with e|h
   ·exact .inr ⟨z,am,e⟩
   ·exact .inl (List.mem_cons_of_mem _ h)
  | false =>
   rw[hz] at h;rcases List.mem_cons.1 (show a∈z::JW p f l from h) with e|h
   ·exact .inl (e ▸ am)
   ·rcases UQ h with h|⟨b,h,e⟩
    ·exact .inl (List.mem_cons_of_mem _ h)
    ·exact .inr ⟨b,List.mem_cons_of_mem _ h,e⟩
def AXD {b:Nat} {d:aB} {x:aX} (h:JF b d):JF (b+1) (mI d x):=by
 obtain ⟨ln,lp,ls,lk,lr⟩:=h;have i1:∀ {α:Type} {f:α->α->Bool} {l:List α} {a:α},l.length<=b->(jX f l a).length<=b+1:=λh=>by rw[AZS];omega
 have i2:∀ {α:Type} {f:α->Bool} {l:List α},l.length<=b->(gV f l).length<=b+1:=λh=>Nat.le_trans ZM (by omega);have i3:∀ {α:Type} {l:List α},l.length<=b->l.length<=b+1:=λh=>by omega
 have i4:∀ {α:Type} {p:α->Bool} {f:α->α} {l:List α},l.length<=b->(JW p f l).length<=b+1:=λh=>by rw[A5P];omega
 unfold mI;by_cases h1:x.1=1
 ·rw[if_pos h1];exact ⟨i1 ln,i3 lp,i3 ls,i3 lk,i3 lr⟩
 rw[if_neg h1];by_cases h2:x.1=2
 ·rw[if_pos h2];exact ⟨i2 ln,i3 lp,i3 ls,i3 lk,i3 lr⟩
 rw[if_neg h2];by_cases h3:x.1=3
 ·rw[if_pos h3];exact ⟨i3 ln,i1 lp,i3 ls,i3 lk,i3 lr⟩
 rw[if_neg h3];by_cases h4:x.1=4
 ·rw[if_pos h4];exact ⟨i3 ln,i2 lp,i3 ls,i3 lk,i3 lr⟩
 rw[if_neg h4];by_cases h5:x.1=5
 ·rw[if_pos h5];exact ⟨i3 ln,i4 lp,i3 ls,i3 lk,i3 lr⟩
 rw[if_neg h5];by_cases h6:x.1=6
 ·rw[if_pos h6];exact ⟨i3 ln,i4 lp,i3 ls,i3 lk,i3 lr⟩
 rw[if_neg h6];by_cases h7:x.1=7
 ·rw[if_pos h7];exact ⟨i3 ln,i3 lp,i1 ls,i3 lk,i3 lr⟩
 rw[if_neg h7];by_cases h8:x.1=8
 ·rw[if_pos h8];exact ⟨i3 ln,i3 lp,i2 ls,i3 lk,i3 lr⟩
 rw[if_neg h8];by_cases h9:x.1=9
 ·rw[if_pos h9];exact ⟨i3 ln,i3 lp,i3 ls,i1 lk,i3 lr⟩
 rw[if_neg h9];by_cases h10:x.1=10
 ·rw[if_pos h10];exact ⟨i3 ln,i3 lp,i3 ls,i2 lk,i3 lr⟩
 rw[if_neg h10];by_cases h11:x.1=11
 ·rw[if_pos h11];exact ⟨i3 ln,i3 lp,i3 ls,i3 lk,i1 lr⟩
 rw[if_neg h11];exact ⟨i3 ln,i3 lp,i3 ls,i3 lk,i2 lr⟩
def AXE {d:aB} {x:aX} (hD:I4 d=true) (hp:fL (cI x)=true):I4 (mI d x)=true:=by
 have a1:∀ q∈d.2.2.1,fL q=true:=λq hq=>List.all_eq_true.1 hD q hq;have mk:∀ {e:aB},(∀ q∈e.2.2.1,fL q=true)->I4 e=true:=λh=>List.all_eq_true.2 h;unfold mI;by_cases h1:x.1=1
 ·rw[if_pos h1];exact mk a1
 rw[if_neg h1];by_cases h2:x.1=2
 ·rw[if_pos h2];exact mk a1
 rw[if_neg h2];by_cases h3:x.1=3
 ·rw[if_pos h3];exact mk λq hq=>(DR.1 hq).elim (λe=>by rw[e];exact hp) (a1 q)
 rw[if_neg h3];by_cases h4:x.1=4
 ·rw[if_pos h4];exact mk λq hq=>a1 q (C0 hq)
 rw[if_neg h4];by_cases h5:x.1=5
 ·rw[if_pos h5];exact mk λq hq=>(UQ hq).elim (a1 q) λ⟨b,_,e⟩=>by rw[e];exact hp
 rw[if_neg h5];by_cases h6:x.1=6
 ·rw[if_pos h6];exact mk λq hq=>(UQ hq).elim (a1 q) λ⟨b,hb,e⟩=>by rw[e];exact a1 b hb
 rw[if_neg h6];by_cases h7:x.1=7
 ·rw[if_pos h7];exact mk a1
 rw[if_neg h7];by_cases h8:x.1=8
 ·rw[if_pos h8];exact mk a1
 rw[if_neg h8];by_cases h9:x.1=9
 ·rw[if_pos h9];exact mk a1
 rw[if_neg h9];by_cases h10:x.1=10
 ·rw[if_pos h10];exact mk a1
 rw[if_neg h10];by_cases h11:x.1=11
 ·rw[if_pos h11];exact mk a1
 rw[if_neg h11];exact mk a1
def AXF {d:aB} {x:aX} (hK:HA d=true) (hk:eT (iQ x)=true):HA (mI d x)=true:=by
 have b1:∀ q∈d.2.2.2.2.1,eT q=true:=λq hq=>List.all_eq_true.1 hK q hq;have mk:∀ {e:aB},(∀ q∈e.2.2.2.2.1,eT q=true)->HA e=true:=λh=>List.all_eq_true.2 h;unfold mI;by_cases h1:x.1=1
 ·rw[if_pos h1];exact mk b1
 rw[if_neg h1];by_cases h2:x.1=2
 ·rw[if_pos h2];exact mk b1
 rw[if_neg h2];by_cases h3:x.1=3
 ·rw[if_pos h3];exact mk b1
 rw[if_neg h3];by_cases h4:x.1=4
 ·rw[if_pos h4];exact mk b1
 rw[if_neg h4];by_cases h5:x.1=5
 ·rw[if_pos h5];exact mk b1
 rw[if_neg h5];by_cases h6:x.1=6
 ·rw[if_pos h6];exact mk b1
 rw[if_neg h6];by_cases h7:x.1=7
 ·rw[if_pos h7];exact mk b1
 rw[if_neg h7];by_cases h8:x.1=8
 ·rw[if_pos h8];exact mk b1
 rw[if_neg h8];by_cases h9:x.1=9
 ·rw[if_pos h9];exact mk λq hq=>(DR.1 hq).elim (λe=>by rw[e];exact hk) (b1 q)
 rw[if_neg h9];by_cases h10:x.1=10
 ·rw[if_pos h10];exact mk λq hq=>b1 q (C0 hq)
 rw[if_neg h10];by_cases h11:x.1=11
 ·rw[if_pos h11];exact mk b1
 rw[if_neg h11];exact mk b1
def A8B {d:aB} (hD:I4 d=true) (hK:HA d=true) {b:Nat} (h:JF b d) (hb:b<=1000):vG d=true:=by
 obtain ⟨ln,lp,ls,lk,lr⟩:=h;exact BER (λq hq=>List.all_eq_true.1 hD q hq) (λq hq=>List.all_eq_true.1 hK q hq) (by omega) (by omega) (by omega) (by omega) (by omega)
variable {m:aI}
def AWJ {d:aB} {x:aX} (hc:vG d=true) (hp:fL (cI x)=true) (hk:eT (iQ x)=true):DF [aG true aD d,aG true aM m,aG true aN x]=some (Sh.enc [(true,aD),(false,.int .i64)] (bJ d m x)):=by
 rw[AGL];unfold E0;exact dP (by unfold okX;rw[hc,hp,hk];rfl)
def ARC {p:a8} (h4:InS aK p):fL p=true:=by
 obtain ⟨_,_,_,_,_,_,⟨⟨h5,h6,_⟩,h7,h8,h9⟩,_⟩:=h4;unfold fL EM lB;simp only[ac,ah,List.all_eq_true];refine ⟨⟨⟨?_,?_⟩,?_,?_⟩,λq hq=>?_⟩
 ·exact h5
 ·exact h6
 ·exact h7
 ·exact h8
 ·obtain ⟨g1,g2,_⟩:=h9 q hq;exact ⟨g1,g2⟩
def ARB {k:aQ} (h:InS aH k):eT k=true:=by
 obtain ⟨_,_,⟨h5,h6,_⟩,_,⟨h7,h8,_⟩⟩:=h;unfold eT lB;simp only[ac,ah];exact ⟨⟨h5,h6⟩,h7,h8⟩
end Go.Pv
namespace Go.Pv
open Go Go.Proofs IntKind
noncomputable def dR (m:aI):aB->List aX->aB×Int
 | d,[]=>(d,0)
 | d,x::l=>if (bJ d m x).2=0 then dR m (bJ d m x).1 l else (qY,(bJ d m x).2)
noncomputable def wF (d:aB) (m:aI) (o:cZ):aB×Int :=
 if sH o.1=false then (qY,6)
 else if (o.2.length:Int)=0 then (qY,3)
 else if 32<(o.2.length:Int) then (qY,4)
 else if ¬ iP d m=0 then (qY,iP d m)
 else dR m d o.2
variable {m:aI}
def rK {d:aB} {x:aX} {l:List aX} (h:(dR m d (x::l)).2=0):P5 d m x/\dR m d (x::l)=dR m (mI d x) l:=by
 have e:dR m d (x::l)=if (bJ d m x).2=0 then dR m (bJ d m x).1 l else (qY,(bJ d m x).2):=rfl
 by_cases hx:(bJ d m x).2=0
 ·have hd:=AJZ hx;rw[if_pos hx,hd.eq] at e;exact ⟨hd,e⟩
 ·rw[if_neg hx] at e;rw[e] at h;exact absurd h hx
def AJV {d:aB} {o:cZ} (h:(wF d m o).2=0):iP d m=0/\wF d m o=dR m d o.2:=by
 unfold wF at h ⊢;split at h
 ·cases h
 split at h
 ·cases h
 split at h
 ·cases h
 split at h
 ·rename_i hc;exact absurd h hc
 ·rename_i h1 h2 h3 h4;exact ⟨Classical.byContradiction h4,by rw[if_neg h1,if_neg h2,if_neg h3,if_neg h4]⟩
def L6 {m:aI}:∀ {l:List aX} {b:Nat} {d:aB},JF b d->I4 d=true->HA d=true->(∀ x∈l,fL (cI x)=true/\eT (iQ x)=true)->(dR m d l).2=0->JF (b+l.length) (dR m d l).1/\I4 (dR m d l).1=true/\HA (dR m d l).1=true
 | [],b,d,h,hD,hK,_,_=>⟨h,hD,hK⟩
 | x::l,b,d,h,hD,hK,hE,h0=>by
  obtain ⟨hd,e⟩:=rK h0;rw[e] at h0 ⊢;obtain ⟨hp,hq⟩:=hE x am;have:=L6 (AXD h) (AXE hD hp) (AXF hK hq) (λy hy=>hE y (List.mem_cons_of_mem _ hy)) h0;rw[List.length_cons,show b+(l.length+1)=b+1+l.length by omega];exact this
def okA (d:aB) (o:cZ):Bool:=(I4 d&&HA d)&&((decide (d.2.1.length<=900)&&decide (d.2.2.1.length<=900))&&(decide (d.2.2.2.1.length<=900)&&(decide (d.2.2.2.2.1.length<=900)&&decide (d.2.2.2.2.2.length<=900))))&&o.2.all λx=>fL (cI x)&&eT (iQ x)
def BEQ {d:aB} {o:cZ} {b:Nat} (h:JF b d) (hb:b<=900) (hD:I4 d=true) (hK:HA d=true) (hE:∀ x∈o.2,fL (cI x)=true/\eT (iQ x)=true):okA d o=true:=by
 obtain ⟨a1,a2,a3,a4,a5⟩:=h;unfold okA;simp only[ac,ah,List.all_eq_true];exact ⟨⟨⟨hD,hK⟩,⟨by omega,by omega⟩,by omega,by omega,by omega⟩,hE⟩
def SY (d:aB) (o:cZ):Bool:=(I4 d&&HA d)&&o.2.all λx=>fL (cI x)&&eT (iQ x)
def A1C {d:aB} {o:cZ} (hd:InS aD d) (ho:InS dF o):SY d o=true:=by
 unfold SY;rw[BES hd,BET hd,Bool.true_and,Bool.true_and];refine List.all_eq_true.2 λx hx=>?_;have h:InS aN x:=ho.2.2.2 x hx;rw[ARC h.2.2.2.2.1,ARB h.2.2.2.2.2.2.1];rfl
end Go.Pv
namespace Go.Pv
open Go Go.Proofs IntKind
noncomputable def A92:Env:=Env.of [(1000000103,.mark),(64,.pure eH),(65,.pure cT),(66,.pure DF)]
def BAH:FuncId->Hint:=b6 41 [(12,.inv [.own 9 6 aD,.val 40 false (.int .i64)])] (λ_=>bA)
def ATG:aV Tryz.prog A92:=.cons (x:=.mark) trivial (.cons C8 (.cons j8 (.cons AXT (.nil _))))
def BM7(a2:cZ):List (List T):=List.map aN.enc a2.2
def BNH(s5:List aB×Int×PUnit):List (List T):=List.map aD.enc s5.1
def BNN(R:T->Prop):Prop:=aR aD [] (i64.wrap ((↑0:Int)-1)) λ(y2:aB)=>R (T.b7 [aG true aD y2,pPP 0])
def BNU(y9:aB×Int):List (List T):=List.map aK.enc y9.1.2.2.1
def AEN(a0:aB)(a1:aI)(a2:cZ)(R:T->Prop):Prop:=aJ BMB (eH [pPQ a2.1]) λ(y0:Bool)=>aC (!y0) (R (T.b7 [T.agg [pPQ ({data:=#[]}),T.sl false [],T.sl false [],T.sl false [], T.sl false [],T.sl false []], pPP 6])) (aC (decide ((↑(BM7 a2).length:Int)=0)) (R (T.b7 [T.agg BL8, pPP 3])) (aC (decide (32<(↑(BM7 a2).length:Int))) (R (T.b7 [T.agg BL8, pPP 4])) (aJ BMA (cT [aG true aD a0,aG true aM a1]) λ(y1:Int)=>aC (!decide (y1=0)) (aC (!decide (y1=0)) (R (T.b7 [T.agg BL8, pPP y1])) (BNN R)) (dM aD [[pPQ a0.1,T.sl false (BM9 a0), T.sl false (BMQ a0), T.sl false (BM6 a0), T.sl false (BM5 a0), T.sl false (BMO a0)]] λ(y3:List aB)=>bB (List aB×Int×PUnit) (λX4 s5=>aC (decide (s5.2.1<(↑(BM7 a2).length:Int))) (aR aN (BM7 a2) s5.2.1 λ(y6:aX)=>aR aD (BNH s5) (i64.wrap ((↑(BNH s5).length:Int)-1)) λ(y7:aB)=>iJ aD (BNH s5) (i64.wrap ((↑(BNH s5).length:Int)-1)).toNat 0 λ(y8:aB)=>aJ [(true,aD),(false,Sy.int IntKind.i64)] (DF [aG true aD y8,aG true aM a1, aG true aN y6]) λ(y9:aB×Int)=>aC (!decide (y9.2=0)) (aC (!decide (y9.2=0)) (R (T.b7 [T.agg BL9, pPP y9.2])) (BNN R)) (bR (decide (((BNH s5).length+1)*136<=140737488355328) && decide ((BNH s5).length+1<=140737488355328)) (dM aD (List.map aD.enc s5.1 ++ [[pPQ y9.1.1, T.sl false (List.map bC.enc y9.1.2.1), T.sl false (BNU y9), T.sl false (List.map bE.enc y9.1.2.2.2.1), T.sl false (List.map aH.enc y9.1.2.2.2.2.1), T.sl false (List.map aZ.enc y9.1.2.2.2.2.2)]]) λ(y11:List aB)=>X4 (y11,i64.wrap (s5.2.1+1),())))) (aR aD (BNH s5) (i64.wrap ((↑(BNH s5).length:Int)-1)) λ(y12:aB)=>iJ aD (BNH s5) (i64.wrap ((↑(BNH s5).length:Int)-1)).toNat 0 λ(y13:aB)=>R (T.b7 [aG true aD y13,pPP 0]))) (y3,0,())))))
abbrev AH8:Sh:=[(true,aD),(true,aM),(true,dF)]
noncomputable def E1 (x:aB×aI×cZ):Option T:=match okA x.1 x.2.2 with
 | true=>some (Sh.enc [(true,aD),(false,.int .i64)] (wF x.1 x.2.1 x.2.2))
 | false=>none
noncomputable def B6:List T->Option T:=gS AH8 E1
def APF {a0 a1 a2}:B6 [aG true aD a0,aG true aM a1,aG true dF a2]=E1 (a0,a1,a2):=bI (s:=AH8) rfl (a0,a1,a2) rfl
def A7T:Of3 Tryz.prog 14 B6 E1 (cC AH8) AEN:=QO (a1:=(true,aD)) (a2:=(true,aM)) (a3:=(true,dF)) (sp:=E1) (F:=AEN) (Hs:=BAH) (f:=14) (k:=8) ATG aY a7 (aO rfl) ⟨_,_,Tryz.func14,rfl⟩ rfl λ_ _ _ _=>by kernel_rfl
def ALE {r:Sy} {l:List r.den} {i:Int} {k:Nat} {y:r.den} {K:r.den->Prop} (hi:i=(k:Int)) (hy:l[k]? = some y) (hk:K y):aR r (List.map r.enc l) i K :=
 ⟨y,by omega,by rw[hi,Int.toNat_natCast];exact yS.2 hy,hk⟩
def A1G {l:List aB} {i k:Nat} {y:aB} {K:aB->Prop} (hi:i=k) (hy:l[k]? = some y) (hk:K y):iJ aD (List.map aD.enc l) i 0 K :=
 ⟨_,y,by rw[hi];exact (yS (r:=aD)).2 hy,al _,rfl,hk⟩
def A6E:aP Tryz.prog 14 B6:=A7T λd m o r h hb=>by
 clear hb;obtain ⟨hc,rfl⟩:=j0 h;clear h;unfold okA at hc;simp only[ac,ah,List.all_eq_true] at hc;obtain ⟨⟨⟨hD,hK⟩,⟨l1,l2⟩,l3,l4,l5⟩,hE⟩:=hc;unfold AEN BNU BNN BNH BM7 BMO BM9 BM6 BM5 BMQ BMB BMA BL9 BL8;refine aF (s:=[(false,Sy.bool)]) (y:=sH o.1) (RY ..) ?_;refine fK (λhi=>?_) λhi=>?_
 ·unfold wF;rw[if_pos hi];rfl
 have hi:¬ sH o.1=false:=by rw[hi];decide
 have eO:(List.map aN.enc o.2).length=o.2.length:=ae ..;rw[eO];refine cA (λh1=>?_) λh1=>?_
 ·unfold wF;rw[if_neg hi,if_pos h1];rfl
 refine cA (λh2=>?_) λh2=>?_
 ·unfold wF;rw[if_neg hi,if_neg h1,if_pos h2];rfl
 refine aF (s:=[(false,.int .i64)]) (y:=iP d m) (fX ..) ?_;have hA:wF d m o=if ¬ iP d m=0 then (qY,iP d m) else dR m d o.2:=by
  unfold wF;rw[if_neg hi,if_neg h1,if_neg h2]
 rw[hA];refine kX (λh3=>?_) λh3=>?_
 ·rw[if_pos h3];exact kX (λ_=>rfl) λh=>absurd h h3
 rw[if_neg (λh=>h h3)];clear hA;refine rO (r:=aD) rfl (l:=[d]) rfl ?_;refine bK o.2.length (λk s=>∃ (L:List aB) (c:aB),s=(L,(k:Int),())/\L.length=k+1/\L[k]? = some c/\dR m d o.2=dR m c (o.2.drop k)/\JF (900+k) c/\I4 c=true/\HA c=true) ⟨[d],d,rfl,rfl,rfl,by rw[List.drop_zero],⟨l1,l2,l3,l4,l5⟩,hD,hK⟩ ?_;rintro X k s hk ⟨L,c,rfl,hL,hLk,hF,hN,hcD,hcK⟩ hX;dsimp only;have hw:i64.wrap (((List.map aD.enc L).length:Int)-1)=(k:Int):=by
  rw[ae,hL];exact (bG _ (by omega) (by omega)).trans (by omega)
 rw[hw];refine cA (λhlt=>?_) λhge=>?_
 ·have hlt:k<o.2.length:=by omega
  rw[bD (r:=aN) hlt];refine ALE (r:=aD) rfl hLk (A1G (Int.toNat_natCast k) hLk ?_);obtain ⟨hp,hq⟩:=hE _ (ak hlt);refine aF (s:=[(true,aD),(false,.int .i64)]) (y:=bJ c m o.2[k]) (AWJ (A8B hcD hcK hN (by omega)) hp hq) ?_;have hF2:dR m d o.2=if (bJ c m o.2[k]).2=0 then dR m (bJ c m o.2[k]).1 (o.2.drop (k+1)) else (qY,(bJ c m o.2[k]).2):=by
   rw[hF,List.drop_eq_getElem_cons hlt];rfl
  refine kX (λhe=>?_) λhe=>?_
  ·refine kX (λ_=>?_) λh=>absurd h he;rw[hF2,if_neg he];rfl
  ·rw[if_pos he] at hF2;have hd:=AJZ he;refine ⟨by rw[ae,hL,ac];exact ⟨ai (by omega),ai (by omega)⟩,?_⟩;refine rO (r:=aD) rfl (l:=L++[(bJ c m o.2[k]).1]) (by rw[List.map_append];rfl) ?_;refine hX _ hlt ⟨_,(bJ c m o.2[k]).1,by rw[show i64.wrap ((k:Int)+1)=((k+1:Nat):Int) from bG _ (by omega) (by omega)],by rw[List.length_append,hL];rfl,?_,hF2,?_,?_,?_⟩
   ·rw[List.getElem?_append_right (by omega),hL];simp
   ·rw[hd.eq];exact AXD hN
   ·rw[hd.eq];exact AXE hcD hp
   ·rw[hd.eq];exact AXF hcK hq
 ·have hk2:o.2.drop k=[]:=List.drop_eq_nil_of_le (by omega);refine ALE (r:=aD) rfl hLk (A1G (Int.toNat_natCast k) hLk ?_);rw[hF,hk2];rfl
variable {m:aI}
def ANW {d:aB} {o:cZ} (h:okA d o=true):B6 [aG true aD d,aG true aM m,aG true dF o]=some (Sh.enc [(true,aD),(false,.int .i64)] (wF d m o)):=by
 rw[APF];unfold E1;exact dP h
end Go.Pv
namespace Go.Pv
open Go Go.RowKit IntKind
section
variable {α : Type}
def SI {k:iII}:∀ {es:List (iII×α)},fI es k=none->k∉es.map λe=>e.1
 | [],_=>by simp
 | e::es,h=>by
  unfold fI at h;split at h
  ·cases h
  ·rename_i hne;have:=SI h;simp only[List.map_cons,List.mem_cons,not_or];exact ⟨λh'=>hne h'.symm,this⟩
def SJ {k s:iII} {x:α}:∀ {es:List (iII×α)},fI (es++[(k,x)]) s=match fI es s with|some y=>some y|none=>if k=s then some x else none
 | []=>by simp[fI]
 | e::es=>by
  simp only[List.cons_append,fI];split
  ·rfl
  ·exact SJ
def wM (id:α->iII) (l:List α) (k:Nat) (es:List (iII×α)):Prop :=
 (∀ s,fI es s=(l.take k).find? λx=>decide (id x=s))/\(es.map λe=>e.1).Nodup/\es.length<=k
def wM.zero (id:α->iII) (l:List α):wM id l 0 []:=⟨by simp[fI],by simp,by simp⟩
def wM.no {id:α->iII} {l:List α} {k:Nat} {es:List (iII×α)} (h:wM id l k es) (hk:k<l.length) {y:α} (hy:fI es (id l[k])=some y):wM id l (k+1) es:=by
 refine ⟨λs=>?_,h.2.1,by have:=h.2.2;omega⟩;rw[List.take_succ_eq_append_getElem hk,List.find?_append,<-h.1];cases hs:fI es s with
 | some z=>rfl
 | none =>
  rw[Option.none_or,List.find?_cons];split
  ·rename_i he;rw[of_decide_eq_true he,hs] at hy;cases hy
  ·rfl
def wM.yes {id:α->iII} {l:List α} {k:Nat} {es:List (iII×α)} (h:wM id l k es) (hk:k<l.length) (hy:fI es (id l[k])=none):wM id l (k+1) (es++[(id l[k],l[k])]):=by
 refine ⟨λs=>?_,?_,by have:=h.2.2;simp;omega⟩
 ·rw[List.take_succ_eq_append_getElem hk,List.find?_append,<-h.1,SJ];cases hs:fI es s with
  | some z=>rfl
  | none =>
   rw[Option.none_or,List.find?_cons];by_cases he:id l[k]=s
   ·simp[he]
   ·simp[he]
 ·rw[List.map_append,List.nodup_append];refine ⟨h.2.1,by simp,λa ha b hb e=>?_⟩;simp only[List.map_cons,List.map_nil,List.mem_singleton] at hb;subst hb e;exact SI hy ha
end
section
variable {β : Type} {lt : β -> β -> Prop}
structure AWC (lt:β->β->Prop):Prop where
 irr:∀ a,¬ lt a a
 tr:∀ {a b c},lt a b->lt b c->lt a c
 tot:∀ {a b},¬ lt a b->¬ lt b a->a=b
def JE (lt:β->β->Prop) (begun:Bool) (last s:β):Prop:=begun=false\/lt last s
def oY (lt:β->β->Prop) (all:List β) (begun:Bool) (last:β) (k:Nat) (nx:β) (sm:Bool):Prop :=
 (sm=false->∀ s∈all.take k,¬ JE lt begun last s)/\(sm=true->nx∈all/\JE lt begun last nx/\∀ s∈all.take k,JE lt begun last s->¬ lt s nx)
def oY.zero (all:List β) (begun:Bool) (last nx:β):oY lt all begun last 0 nx false:=⟨by simp,by simp⟩
variable {begun sm:Bool}
def oY.take (ho:AWC lt) {all:List β} {last:β} {k:Nat} {nx:β} (h:oY lt all begun last k nx sm) (hk:k<all.length)
  (he:JE lt begun last all[k]) (hc:sm=false\/lt all[k] nx):oY lt all begun last (k+1) all[k] true:=by
 refine ⟨by simp,λ_=>⟨ak hk,he,λs hs hes=>?_⟩⟩;rw[List.take_succ_eq_append_getElem hk,List.mem_append] at hs;rcases hs with hs|hs
 ·cases sm with
  | false=>exact absurd hes (h.1 rfl s hs)
  | true =>
   have hlt:=hc.resolve_left (by simp);exact λh'=>(h.2 rfl).2.2 s hs hes (ho.tr h' hlt)
 ·rw[List.mem_singleton.1 hs];exact ho.irr _
def oY.skip {all:List β} {last:β} {k:Nat} {nx:β} (h:oY lt all begun last k nx sm) (hk:k<all.length)
  (hc:¬ JE lt begun last all[k]\/(sm=true/\¬ lt all[k] nx)):oY lt all begun last (k+1) nx sm:=by
 refine ⟨λe s hs=>?_,λe=>⟨(h.2 e).1,(h.2 e).2.1,λs hs hes=>?_⟩⟩
 ·rw[List.take_succ_eq_append_getElem hk,List.mem_append] at hs;rcases hs with hs|hs
  ·exact h.1 e s hs
  ·rw[List.mem_singleton.1 hs];rcases hc with hc|⟨hc,_⟩
   ·exact hc
   ·rw[hc] at e;cases e
 ·rw[List.take_succ_eq_append_getElem hk,List.mem_append] at hs;rcases hs with hs|hs
  ·exact (h.2 e).2.2 s hs hes
  ·rw[List.mem_singleton.1 hs] at hes ⊢;rcases hc with hc|⟨_,hc⟩
   ·exact absurd hes hc
   ·exact hc
def sD (lt:β->β->Prop) (all:List β) (D:β->Prop) (out:List β) (begun:Bool) (last:β):Prop :=
 out.Pairwise lt/\∀ s,s∈out↔s∈all/\D s/\¬ JE lt begun last s
def sD.zero (all:List β) (D:β->Prop) (last:β):sD lt all D [] false last:=⟨List.Pairwise.nil,λs=>by simp[JE]⟩
def xX (ho:AWC lt) {all:List β} {last nx:β} (h:oY lt all begun last all.length nx true) {s:β} (hs:s∈all):¬ JE lt true nx s↔¬ JE lt begun last s\/s=nx:=by
 have h2:=(h.2 rfl).2;rw[List.take_length] at h2;have e1:JE lt true nx s↔lt nx s:=by simp[JE]
 rw[e1];constructor
 ·intro hn;by_cases he:JE lt begun last s
  ·exact .inr (ho.tot (h2.2 s hs he) hn)
  ·exact .inl he
 ·rintro (hn|rfl)
  ·intro hl;refine hn ?_;rcases h2.1 with h3|h3
   ·exact .inl h3
   ·exact .inr (ho.tr h3 hl)
  ·exact ho.irr _
def sD.skip (ho:AWC lt) {all:List β} {D:β->Prop} {out:List β} {last nx:β} (h:sD lt all D out begun last) (hl:oY lt all begun last all.length nx true) (hd:¬ D nx):sD lt all D out true nx:=by
 refine ⟨h.1,λs=>?_⟩;rw[h.2];constructor
 ·rintro ⟨h1,h2,h3⟩;exact ⟨h1,h2,(xX ho hl h1).2 (.inl h3)⟩
 ·rintro ⟨h1,h2,h3⟩;rcases (xX ho hl h1).1 h3 with h3|rfl
  ·exact ⟨h1,h2,h3⟩
  ·exact absurd h2 hd
def sD.take (ho:AWC lt) {all:List β} {D:β->Prop} {out:List β} {last nx:β} (h:sD lt all D out begun last) (hl:oY lt all begun last all.length nx true) (hd:D nx):sD lt all D (out++[nx]) true nx:=by
 have hn:=hl.2 rfl;refine ⟨List.pairwise_append.2 ⟨h.1,by simp,λa ha b hb=>?_⟩,λs=>?_⟩
 ·rw[List.mem_singleton.1 hb];have ha':=(h.2 a).1 ha;refine Classical.byContradiction λhlt=>?_;have:¬ lt nx a:=λh'=>ha'.2.2 (by
   rcases hn.2.1 with h3|h3
   ·exact .inl h3
   ·exact .inr (ho.tr h3 h'))
  exact ha'.2.2 (by rw[ho.tot hlt this];exact hn.2.1)
 ·rw[List.mem_append,h.2,List.mem_singleton];constructor
  ·rintro (⟨h1,h2,h3⟩|rfl)
   ·exact ⟨h1,h2,(xX ho hl h1).2 (.inl h3)⟩
   ·exact ⟨hn.1,hd,(xX ho hl hn.1).2 (.inr rfl)⟩
  ·rintro ⟨h1,h2,h3⟩;rcases (xX ho hl h1).1 h3 with h3|rfl
   ·exact .inl ⟨h1,h2,h3⟩
   ·exact .inr rfl
def sD.done {all:List β} {D:β->Prop} {out:List β} {last nx:β} (h:sD lt all D out begun last) (hl:oY lt all begun last all.length nx false):out.Pairwise lt/\∀ s,s∈out↔s∈all/\D s:=by
 refine ⟨h.1,λs=>?_⟩;rw[h.2];have:=hl.1 rfl;rw[List.take_length] at this;exact ⟨λ⟨a,b,_⟩=>⟨a,b⟩,λ⟨a,b⟩=>⟨a,b,this s a⟩⟩
open Classical in
open Classical in
end
end Go.Pv
namespace Go.Pv
open Go Go.Proofs Go.RowKit Go.Sort Go.Shelf IntKind
def toL (b:iII):List UInt8:=b.data.toList
def ofL (a:List UInt8):iII:=⟨a.toArray⟩
def jS (b:iII):ofL (toL b)=b:=by cases b;simp[ofL,toL]
def toL_ofL (a:List UInt8):toL (ofL a)=a:=by simp[ofL,toL]
def yM (q:List (List UInt8)->List (List UInt8)) (l:List iII):List iII:=(q (l.map toL)).map ofL
def ARP (q:List (List UInt8)->List (List UInt8)) (l:List iII):(q (l.map toL)).map (λa=>[T.v (encStr a)])=List.map Sy.str.enc (yM q l):=by
 unfold yM;rw[List.map_map];rfl
def kU (l:List (List UInt8)):List (List UInt8):=l.mergeSort λx y=>decide (x<=y)
def xP (rows:List (List T)):Option (List (List T)):=(MM rows).map λl=>(kU l).map λa=>[.v (encStr a)]
def ABA (l:List iII) (K:List (List T)->Prop):lC (List (List T)) (xP (List.map Sy.str.enc l)) K=K (List.map Sy.str.enc (yM kU l)):=by
 have e:xP (List.map Sy.str.enc l)=some (List.map Sy.str.enc (yM kU l)):=by
  unfold xP;rw[Q5];exact congrArg some (ARP ..)
 rw[e];exact propext ⟨λ⟨y,h1,h2⟩=>by cases h1;exact h2,λh=>⟨_,rfl,h⟩⟩
def AO4:cN Tryz.prog 71 (DD 1 xP) :=
 ARI (f:=71) encStr (λ_=>rfl) MM MN kU (λl=>by unfold kU;simp) ⟨_,Tryz.func71,rfl,rfl⟩
  (λbN cap zs w hH hb hs=>Any.slices_Sort_string Tryz.AKM bN 0 cap zs w hH hb hs) (λp cap w=>Any.slices_Sort_string_none Tryz.AKM p cap w)
def AFW (l:List (List UInt8)):(Lib.compact l).length<=l.length:=by
 unfold Lib.compact;unfold Lib.compactUpTo;rw[ae];exact Nat.le_trans (List.length_filter_le _ _) (by simp)
def AXI (x:List UInt8):Bool:=x.isEmpty
def AJY (l:List (List UInt8)):List (List UInt8):=l.filter λx=>!AXI x
end Go.Pv
namespace Go.Pv
open Go Go.Proofs IntKind
def lA (l:List iII):List iII:=yM AJY (yM Lib.compact (yM kU l))
def cR (x:aX):List iII :=
 if x.1=1 then [x.2.2.2.1.1,x.2.2.2.1.2.2]
 else if x.1=2\/x.1=4\/x.1=8\/x.1=10 then [x.2.1]
 else if x.1=3\/x.1=5 then [x.2.2.2.2.1.1,x.2.2.2.2.1.2.2.2.1]
 else if x.1=6 then [x.2.1,x.2.2.1]
 else if x.1=7 then [x.2.2.2.2.2.1.1,x.2.2.2.2.2.1.2.1,x.2.2.2.2.2.1.2.2.1]
 else if x.1=9 then ([x.2.2.2.2.2.2.1.1,x.2.2.2.2.2.2.1.2.1]++x.2.2.2.2.2.2.1.2.2.1)++x.2.2.2.2.2.2.1.2.2.2.2
 else if x.1=11\/x.1=12 then [x.2.2.2.2.2.2.2.2.1,x.2.2.2.2.2.2.2.2.2]
 else []
def VY (x:aX):Bool:=decide (x.2.2.2.2.2.2.1.2.2.1.length<=1000000)&&decide (x.2.2.2.2.2.2.1.2.2.2.2.length<=1000000)
def BFU (x:aX):Option T:=match VY x with
 | true=>some (T.sl false (List.map Sy.str.enc (lA (cR x))))
 | false=>none
def zK {c:Bool} {a r:T} (h:(match c with|true=>some a|false=>none)=some r):c=true/\a=r:=by
 cases c with
 | true=>exact ⟨rfl,Option.some.inj h⟩
 | false=>cases h
def UL {l:List iII}:eQ 1 (List.map Sy.str.enc l)=true:=sR .str l
end Go.Pv
namespace Go.Pv
open Go Go.Proofs Go.Lib IntKind
def WU (a b:iII):cD a b=true↔toL a<toL b:=by
 unfold cD toL;rw[bytesLess_eq,decide_eq_true_iff]
def MA:∀ {l m:List (List UInt8)},l.Pairwise (· < ·)->m.Pairwise (· < ·)->(∀ a,a∈l↔a∈m)->l=m
 | [],[],_,_,_=>rfl
 | [],b::m,_,_,h=>absurd ((h b).2 am) (by simp)
 | a::l,[],_,_,h=>absurd ((h a).1 am) (by simp)
 | a::l,b::m,h1,h2,h=>by
  rw[List.pairwise_cons] at h1 h2;have e:a=b:=by
   rcases List.mem_cons.1 ((h a).1 am) with e|e
   ·exact e
   ·rcases List.mem_cons.1 ((h b).2 am) with e'|e'
    ·exact e'.symm
    ·exact absurd (List.lt_trans (h1.1 b e') (h2.1 a e)) (List.lt_irrefl _)
  subst e;refine congrArg (a :: ·) (MA h1.2 h2.2 λx=>⟨λhx=>?_,λhx=>?_⟩)
  ·rcases List.mem_cons.1 ((h x).1 (List.mem_cons_of_mem _ hx)) with e|e
   ·subst e;exact absurd (h1.1 _ hx) (List.lt_irrefl _)
   ·exact e
  ·rcases List.mem_cons.1 ((h x).2 (List.mem_cons_of_mem _ hx)) with e|e
   ·subst e;exact absurd (h2.1 _ hx) (List.lt_irrefl _)
   ·exact e
def TC (l:List (List UInt8)):(kU l).Pairwise (· <= ·):=by
 unfold kU;have h:=List.pairwise_mergeSort (le:=λx y:List UInt8=>decide (x<=y)) (λa b c h1 h2=>ai (List.le_trans (of_decide_eq_true h1) (of_decide_eq_true h2))) (λa b=>by
  rw[Bool.or_eq_true,ah,ah];exact List.le_total a b) l
 exact h.imp λh=>of_decide_eq_true h
def PN {l:List (List UInt8)} {a:List UInt8}:a∈kU l↔a∈l:=by unfold kU;exact List.mem_mergeSort
def MH {l:List (List UInt8)} (h:l.Pairwise (· <= ·)):(Lib.compact l).Pairwise (· < ·):=by
 unfold Lib.compact compactUpTo;rw[List.pairwise_map,List.pairwise_filter];refine List.Pairwise.imp_of_mem ?_ List.pairwise_lt_range;intro i j hi hj hij ki kj;rw[List.mem_range] at hi hj;have get:∀ k (hk:k<l.length),l.toArray[k]! = l[k]:=λk hk=>by simp[hk]
 have le:∀ p q (hp:p<l.length) (hq:q<l.length),p<=q->l[p]<=l[q]:=λp q hp hq hpq=>by
  by_cases e:p=q
  ·subst e;exact List.le_refl _
  ·exact List.pairwise_iff_getElem.1 h p q hp hq (by omega)
 unfold keeps at kj;rw[ah] at kj;have hne:l.toArray[j]! ≠ l.toArray[j-1]! := kj.resolve_left (by omega);rw[get j hj,get (j-1) (by omega)] at hne;rw[get i hi,get j hj];have a1:=le i (j-1) hi (by omega) (by omega);have a2:=le (j-1) j (by omega) hj (by omega);have a3:l[j-1]<l[j]:=Decidable.byContradiction λhn=>hne (List.le_antisymm (List.not_lt.1 hn) a2);exact Decidable.byContradiction λhn=>absurd (List.le_trans (List.not_lt.1 hn) a1) (List.not_le.2 a3)
def II {l:List (List UInt8)} {a:List UInt8}:a∈Lib.compact l↔a∈l:=by
 have get:∀ k (hk:k<l.length),l.toArray[k]! = l[k]:=λk hk=>by simp[hk]
 have all:∀ n k,k<=n->(hk:k<l.length)->l[k]∈Lib.compact l:=by
  intro n
  induction n with
  | zero =>
   intro k hk hl;have:k=0:=by omega
   subst this;unfold Lib.compact compactUpTo;exact List.mem_map.2 ⟨0,List.mem_filter.2 ⟨List.mem_range.2 hl,keeps_lt_one _ 0 (by omega)⟩,get 0 hl⟩
  | succ n ih =>
   intro k hk hl;by_cases hkk:keeps l.toArray k=true
   ·unfold Lib.compact compactUpTo;exact List.mem_map.2 ⟨k,List.mem_filter.2 ⟨List.mem_range.2 hl,hkk⟩,get k hl⟩
   ·unfold keeps at hkk;rw[ah,not_or] at hkk;have e:l.toArray[k]! = l.toArray[k-1]! := Decidable.byContradiction hkk.2;rw[get k hl,get (k-1) (by omega)] at e;rw[e];exact ih (k-1) (by omega) (by omega)
 constructor
 ·intro h;unfold Lib.compact compactUpTo at h;obtain ⟨k,h1,rfl⟩:=List.mem_map.1 h;have hk:=List.mem_range.1 (List.mem_filter.1 h1).1;rw[get k hk];exact ak hk
 ·intro h;obtain ⟨k,hk,rfl⟩:=List.mem_iff_getElem.1 h;exact all k k (al _) hk
def AN2 {l:List (List UInt8)} {a:List UInt8}:a∈AJY l↔a∈l/\a≠[]:=by
 unfold AJY AXI;rw[List.mem_filter];cases a<;>simp
def SW (l:List iII):(lA l).map toL=AJY (Lib.compact (kU (l.map toL))):=by
 have e:∀ m:List (List UInt8),(m.map ofL).map toL=m:=λm=>by
  rw[List.map_map];exact (List.map_congr_left λa _=>toL_ofL a).trans (List.map_id _)
 unfold lA yM;rw[e,e,e]
def A0R (l:List iII):((lA l).map toL).Pairwise (· < ·):=by
 rw[SW];exact (MH (TC _)).sublist (List.filter_sublist)
def SV (l:List iII) (a:List UInt8):a∈(lA l).map toL↔a∈l.map toL/\a≠[]:=by
 rw[SW,AN2,II,PN]
def ABW {l m:List iII} (h:l.map toL=m.map toL):l=m:=map_inj (λx y h=>by rw[<-jS x,<-jS y,h]) h
end Go.Pv
namespace Go.Pv
open Go Go.Proofs IntKind
def ltB (a b:iII):Prop:=toL a<toL b
def BIB:AWC ltB:=⟨λa=>List.lt_irrefl _,λh1 h2=>List.lt_trans h1 h2,λ{a b} h1 h2=>by rw[<-jS a,<-jS b,List.le_antisymm (List.not_lt.1 h2) (List.not_lt.1 h1)]⟩
def AFL (l:List iII):List iII:=yM Lib.compact (yM kU l)
def toL_viaL (q:List (List UInt8)->List (List UInt8)) (l:List iII):(yM q l).map toL=q (l.map toL):=by
 unfold yM;rw[List.map_map];exact (List.map_congr_left λa _=>toL_ofL a).trans (List.map_id _)
def A5N (l:List iII):(AFL l).Pairwise ltB:=by
 have h:((AFL l).map toL).Pairwise (· < ·):=by
  unfold AFL;rw[toL_viaL,toL_viaL];exact MH (TC _)
 show (AFL l).Pairwise λa b=>toL a<toL b;exact List.pairwise_map.1 h
def J0 {l:List iII} {s:iII}:toL s∈l.map toL↔s∈l :=
 ⟨λh=>by obtain ⟨b,hb,e⟩:=List.mem_map.1 h;rw[<-jS s,<-e,jS];exact hb,λh=>List.mem_map.2 ⟨s,h,rfl⟩⟩
def AWM {l:List iII} {s:iII}:s∈AFL l↔s∈l:=by
 rw[<-J0];unfold AFL;rw[toL_viaL,toL_viaL,II,PN,J0]
def A5M {l m:List iII} (h1:l.Pairwise ltB) (h2:m.Pairwise ltB) (h:∀ s,s∈l↔s∈m):l=m:=by
 have e:l.map toL=m.map toL:=MA (List.pairwise_map.2 h1) (List.pairwise_map.2 h2) λa=>by
  constructor
  ·intro ha;obtain ⟨b,hb,rfl⟩:=List.mem_map.1 ha;exact J0.2 ((h b).1 hb)
  ·intro ha;obtain ⟨b,hb,rfl⟩:=List.mem_map.1 ha;exact J0.2 ((h b).2 hb)
 have:=congrArg (List.map ofL) e;rw[List.map_map,List.map_map] at this;have u:∀ k:List iII,List.map (ofL∘toL) k=k:=λk=>(List.map_congr_left λa _=>jS a).trans (List.map_id _);rwa[u,u] at this
end Go.Pv
namespace Go.Pv
open Go Go.Proofs IntKind
noncomputable def ATB:Env:=Env.of [(22,.pure pH)]
def AV9:FuncId->Hint:=b6 72 [(6,.inv [.own 5 1 .str,.val 6 false .bool,.val 7 false (.int .i64)])] (λ_=>bA)
def AEI:aV Tryz.prog ATB:=.cons ZX (.nil _)
def BMN(a0:List iII):List (List T):=List.map Sy.str.enc a0
def BNK(a1:iII):List (List T):=[[pPQ a1]]
def BNF(s2:List iII×Bool×Int×PUnit):List (List T):=List.map Sy.str.enc s2.1
def LV(a0:List iII)(a1:iII)(R:T->Prop):Prop:=aC (decide (a1 = {data:=#[]})) (R (T.sl false (BMN a0))) (aJ BMB (pH [T.sl false (BMN a0),pPQ a1]) λ(y0:Bool)=>aC y0 (R (T.sl false (BMN a0))) (bB (List iII×Bool×Int×PUnit) (λX1 s2=>aC (decide (s2.2.2.1<(↑(BMN a0).length:Int))) (aC (!s2.2.1) (aR Sy.str (BMN a0) s2.2.2.1 λ(y3:iII)=>aC (!(cD y3 a1||decide (y3=a1))) (bR (decide (((BNF s2).length+1)*16<=140737488355328) && decide ((BNF s2).length+1<=140737488355328)) (aR Sy.str (BMN a0) s2.2.2.1 λ(y4:iII)=>bR (decide (((List.map Sy.str.enc s2.1 ++ [[pPQ a1].reverse].reverse).length + 1) * 16 <= 140737488355328) && decide ((List.map Sy.str.enc s2.1 ++ [[pPQ a1].reverse].reverse).length + 1 <= 140737488355328)) (dM Sy.str (List.map Sy.str.enc s2.1++(BNK a1) ++ (BNK y4)) λ(y5:List iII)=>X1 (y5,true,i64.wrap (s2.2.2.1+1),())))) (aR Sy.str (BMN a0) s2.2.2.1 λ(y6:iII)=>bR (decide (((BNF s2).length+1)*16<=140737488355328) && decide ((BNF s2).length+1<=140737488355328)) (dM Sy.str (List.map Sy.str.enc s2.1++(BNK y6)) λ(y7:List iII)=>X1 (y7,s2.2.1,i64.wrap (s2.2.2.1+1),())))) (aR Sy.str (BMN a0) s2.2.2.1 λ(y8:iII)=>bR (decide (((BNF s2).length+1)*16<=140737488355328) && decide ((BNF s2).length+1<=140737488355328)) (dM Sy.str (List.map Sy.str.enc s2.1++(BNK y8)) λ(y9:List iII)=>X1 (y9,s2.2.1,i64.wrap (s2.2.2.1+1),())))) (aC (!s2.2.1) (bR (decide (((BNF s2).length+1)*16<=140737488355328) && decide ((BNF s2).length+1<=140737488355328)) (R (T.sl false (List.map Sy.str.enc s2.1++(BNK a1))))) (R (T.sl false (BNF s2))))) ([],false,0,())))
abbrev PE:Sh:=[(false,Sy.str.li),(false,Sy.str)]
def gtB (y s:iII):Bool:=!(cD y s||decide (y=s))
def AL:List iII->iII->List iII
 | [],s=>[s]
 | a::l,s=>match gtB a s with
  | true=>s::a::l
  | false=>a::AL l s
def mH (l:List iII) (s:iII):List iII:=if s=⟨#[]⟩ then l else if VI l s=true then l else AL l s
def uJ (x:List iII×iII):Option T:=match decide (x.1.length<=10000000) with
 | true=>some (T.sl false (List.map Sy.str.enc (mH x.1 x.2)))
 | false=>none
noncomputable def dE:List T->Option T:=gS PE uJ
def ABD {a0 a1}:dE [T.sl false (List.map Sy.str.enc a0),pPQ a1]=uJ (a0,a1):=bI (s:=PE) rfl (a0,a1) rfl
def AQ8:rJ Tryz.prog 72 dE uJ (cC PE) LV:=gZ (a1:=(false,Sy.str.li)) (a2:=(false,Sy.str)) (sp:=uJ) (F:=LV) (Hs:=AV9) (f:=72) (k:=8) AEI aY a7 (aO rfl) ⟨_,_,Tryz.func72,rfl⟩ rfl λ_ _ _=>by kernel_rfl
def ABM:∀ (l:List iII) (s:iII),(AL l s).length=l.length+1
 | [],_=>rfl
 | a::l,s=>by
  unfold AL;split
  ·rfl
  ·rw[List.length_cons,ABM l s];rfl
def VM {a s:iII} {l:List iII} (h:gtB a s=true):AL (a::l) s=s::a::l:=by rw[AL,h]
def VN {a s:iII} {l:List iII} (h:gtB a s=false):AL (a::l) s=a::AL l s:=by rw[AL,h]
def AF0 {l:List iII} {rows:List (List T)} {K:List iII->Prop} (e:rows=List.map Sy.str.enc l) (h:K l):dM .str rows K:=by subst e;rw[dH (r:=.str) rfl];exact h
def AO7:aP Tryz.prog 72 dE:=AQ8 λl a r h hb=>by
 clear hb;obtain ⟨hl,rfl⟩:=zK h;clear h;have hl:l.length<=10000000:=of_decide_eq_true hl;have is:∀ {m:List iII},mH l a=m->T.sl false (List.map Sy.str.enc m)=T.sl false (List.map Sy.str.enc (mH l a)):=λe=>by rw[e]
 unfold LV BNF BNK BMN BMB;refine cA (λh=>is (by unfold mH;rw[if_pos h])) λh1=>?_;refine aF (s:=kO) (y:=VI l a) (NP ..) ?_;refine vA (λh=>is (by unfold mH;rw[if_neg h1,if_pos h])) λh2=>?_;have hw:mH l a=AL l a:=by unfold mH;rw[if_neg h1,if_neg (by rw[h2];exact Bool.false_ne_true)]
 refine bK l.length (λk s=>s.2.2.1=(k:Int)/\((s.2.1=false/\s.1.length=k/\s.1++AL (l.drop k) a=AL l a)\/(s.2.1=true/\s.1.length=k+1/\s.1++l.drop k=AL l a))) ⟨rfl,.inl ⟨rfl,rfl,rfl⟩⟩ ?_;rintro X k ⟨o,dn,i,u⟩ hk ⟨rfl,hs⟩ hX;dsimp only at hs ⊢;have wk:k<l.length->i64.wrap ((k:Int)+1)=((k+1:Nat):Int):=λh=>by rw[bG]<;>omega
 rw[ae];refine cA (λhlt=>?_) λhge=>?_
 ·have hlt:k<l.length:=by omega
  have ho:o.length<=k+1:=by rcases hs with ⟨_,h,_⟩|⟨_,h,_⟩<;>omega
  have hd:l.drop k=l[k]::l.drop (k+1):=List.drop_eq_getElem_cons hlt;have sz:∀ m:List iII,m.length<=k+2->(decide (((List.map Sy.str.enc m).length+1)*16<=140737488355328)&&decide ((List.map Sy.str.enc m).length+1<=140737488355328))=true:=λm hm=>by
   rw[ac,ae];exact ⟨ai (by omega),ai (by omega)⟩
  rw[bD (r:=.str) hlt];refine fK (λhdn=>?_) λhdn=>?_
  ·rcases hs with ⟨_,h3,h4⟩|⟨h,_⟩
   case inr=>rw[hdn] at h;cases h
   rw[hd] at h4;refine vA (λhg=>?_) λhg=>?_
   ·refine ⟨sz o (by omega),?_⟩;have e:List.map Sy.str.enc o++[[pPQ a]]=List.map Sy.str.enc (o++[a]):=by rw[List.map_append];rfl
    rw[bD (r:=.str) hlt];refine ⟨?_,?_⟩
    ·show (decide (((List.map Sy.str.enc o++[[pPQ a]]).length+1)*16<=140737488355328)&&decide ((List.map Sy.str.enc o++[[pPQ a]]).length+1<=140737488355328))=true;rw[e];exact sz _ (by rw[List.length_append,h3];show k+1<=k+2;omega)
    ·refine AF0 (l:=o++[a]++[l[k]]) (by rw[List.map_append,List.map_append];rfl) (hX _ hlt ⟨wk hlt,.inr ⟨rfl,?_,?_⟩⟩)
     ·simp[h3]
     ·have hg:gtB l[k] a=true:=hg;rw[VM hg] at h4;rw[<-h4];simp
   ·rw[bD (r:=.str) hlt];refine ⟨sz o (by omega),AF0 (l:=o++[l[k]]) (by rw[List.map_append];rfl) (hX _ hlt ⟨wk hlt,.inl ⟨hdn,?_,?_⟩⟩)⟩
    ·simp[h3]
    ·have hg:gtB l[k] a=false:=hg;rw[VN hg] at h4;rw[<-h4];simp
  ·rcases hs with ⟨h,_⟩|⟨_,h3,h4⟩
   ·rw[hdn] at h;cases h
   rw[bD (r:=.str) hlt];refine ⟨sz o (by omega),AF0 (l:=o++[l[k]]) (by rw[List.map_append];rfl) (hX _ hlt ⟨wk hlt,.inr ⟨hdn,?_,?_⟩⟩)⟩
   ·simp[h3]
   ·rw[hd] at h4;rw[<-h4];simp
 ·have hkl:k=l.length:=by omega
  subst hkl;rw[List.drop_length] at hs;refine fK (λhdn=>?_) λhdn=>?_
  ·rcases hs with ⟨_,h3,h4⟩|⟨h,_⟩
   case inr=>rw[hdn] at h;cases h
   refine ⟨?_,?_⟩
   ·rw[ac,ae];exact ⟨ai (by omega),ai (by omega)⟩
   ·have e:List.map Sy.str.enc o++[[pPQ a]]=List.map Sy.str.enc (o++[a]):=by rw[List.map_append];rfl
    rw[e];exact is (by rw[hw,<-h4];rfl)
  ·rcases hs with ⟨h,_⟩|⟨_,h3,h4⟩
   ·rw[hdn] at h;cases h
   exact is (by rw[hw,<-h4,List.append_nil])
end Go.Pv
namespace Go.Pv
open Go Go.Proofs IntKind
noncomputable def XU:Env:=Env.of [(72,.pure dE)]
def YW:FuncId->Hint:=b6 49 [(24,.inv [.val 4 false (.li .str),.val 5 false (.int .i64)])] (λ_=>bA)
def P6:aV Tryz.prog XU:=.cons AO7 (.nil _)
def BMD:Sh:=[(false,Sy.str.li)]
def BMT(s1:List iII×Int×PUnit):List (List T):=List.map Sy.str.enc s1.1
def BND(y75:List iII)(X72:List iII×Int×PUnit->Prop)(s73:List iII×Int×PUnit):Prop:=dM Sy.str (BMN y75) λ(y76:List iII)=>X72 (y76,i64.wrap (s73.2.1+1),())
def BMM(s1:List iII×Int×PUnit)(y2:iII)(X0:List iII×Int×PUnit->Prop):Prop:=aJ BMD (dE [T.sl false (BMT s1),pPQ y2]) λ(y3:List iII)=>BND y3 X0 s1
def BMU(a0:aX):List (List T):=List.map Sy.str.enc a0.2.2.2.2.2.2.1.2.2.2.2
def BNA(R:T->Prop)(s1:List iII×Int×PUnit):Prop:=R (T.sl false (BMT s1))
def BMV(a0:aX)(R:T->Prop):Prop:=bB (List iII×Int×PUnit) (λX62 s63=>aC (decide (s63.2.1<(↑1:Int))) (aR Sy.str [[pPQ a0.2.1]] s63.2.1 λ(y64:iII)=>aJ BMD (dE [T.sl false (BMT s63), pPQ y64]) λ(y65:List iII)=>BND y65 X62 s63) (BNA R s63)) ([],0,())
def BMY(a0:aX):List (List T):=List.map Sy.str.enc a0.2.2.2.2.2.2.1.2.2.1
def BMZ(a0:aX)(R:T->Prop):Prop:=bB (List iII×Int×PUnit) (λX42 s43=>aC (decide (s43.2.1<(↑2:Int))) (aR Sy.str [[pPQ a0.2.2.2.2.2.2.2.2.1], [pPQ a0.2.2.2.2.2.2.2.2.2]] s43.2.1 λ(y44:iII)=>BMM s43 y44 X42) (BNA R s43)) ([],0,())
def BM1(a0:aX)(R:T->Prop):Prop:=bB (List iII×Int×PUnit) (λX5 s6=>aC (decide (s6.2.1<(↑2:Int))) (aR Sy.str [[pPQ a0.2.2.2.2.1.1], [pPQ a0.2.2.2.2.1.2.2.2.1]] s6.2.1 λ(y7:iII)=>BMM s6 y7 X5) (BNA R s6)) ([],0,())
def BM2(a0:aX)(R:T->Prop):Prop:=bB (List iII×Int×PUnit) (λX52 s53=>aC (decide (s53.2.1<(↑1:Int))) (aR Sy.str [[pPQ a0.2.1]] s53.2.1 λ(y54:iII)=>BMM s53 y54 X52) (BNA R s53)) ([],0,())
def BNB(a0:aX):List T:=[pPQ a0.2.2.2.2.2.2.1.2.1]
def BNC(a0:aX):List T:=[pPQ a0.2.2.2.2.2.2.1.1]
def BM3(a0:aX):List (List T):=[(BNC a0).reverse, (BNB a0).reverse]
def wL(a0:aX)(R:T->Prop):Prop:=aC (decide (a0.1=1)) (bB (List iII×Int×PUnit) (λX0 s1=>aC (decide (s1.2.1<(↑2:Int))) (aR Sy.str [[pPQ a0.2.2.2.1.1], [pPQ a0.2.2.2.1.2.2]] s1.2.1 λ(y2:iII)=>BMM s1 y2 X0) (BNA R s1)) ([],0,())) (aC (decide (a0.1=3)) (BM1 a0 R) (aC (decide (a0.1=5)) (BM1 a0 R) (aC (decide (a0.1=6)) (bB (List iII×Int×PUnit) (λ(X15:List iII×Int×PUnit->Prop) (CK:List iII×Int×PUnit)=>aC (decide (CK.2.1<(↑2:Int))) (aR Sy.str [[pPQ a0.2.1],[pPQ a0.2.2.1]] CK.2.1 λ(y17:iII)=>BMM CK y17 X15) (BNA R CK)) ([],0,())) (aC (decide (a0.1=7)) (bB (List iII×Int×PUnit) (λX20 s21=>aC (decide (s21.2.1<(↑3:Int))) (aR Sy.str [[pPQ a0.2.2.2.2.2.1.1], [pPQ a0.2.2.2.2.2.1.2.1], [pPQ a0.2.2.2.2.2.1.2.2.1]] s21.2.1 λ(y22:iII)=>BMM s21 y22 X20) (BNA R s21)) ([],0,())) (aC (decide (a0.1=9)) (aC (BMY a0).isEmpty (aC (BMU a0).isEmpty (bB (List iII×Int×PUnit) (λX25 s26=>aC (decide (s26.2.1<(↑2:Int))) (aR Sy.str [(BNC a0), (BNB a0)] s26.2.1 λ(y27:iII)=>BMM s26 y27 X25) (BNA R s26)) ([],0,())) (bR (eQ 1 (BMU a0) && decide ((2+(BMU a0).length)*16 <= 140737488355328) && decide (2+(BMU a0).length <= 140737488355328)) (bB (List iII×Int×PUnit) (λX30 s31=>aC (decide (s31.2.1 < (↑(UT (BM3 a0) (BMU a0)).length : Int))) (aR Sy.str ((BNC a0) :: (BNB a0) :: (BMU a0)) s31.2.1 λ(y32:iII)=>iJ Sy.str ((BNC a0) :: (BNB a0) :: (BMU a0)) (Int.toNat s31.2.1) 0 λ(y33:iII)=>BMM s31 y33 X30) (BNA R s31)) ([],0,())))) (bR (eQ 1 (BMY a0) && decide ((2+(BMY a0).length)*16 <= 140737488355328) && decide (2+(BMY a0).length <= 140737488355328)) (bR (eQ 1 (BMU a0) && decide (((UT (BM3 a0) (BMY a0)).length + (BMU a0).length) * 16 <= 140737488355328) && decide ((UT (BM3 a0) (BMY a0)).length + (BMU a0).length <= 140737488355328)) (bB (List iII×Int×PUnit) (λX36 s37=>aC (decide (s37.2.1 < (↑(UT (BM3 a0) (BMY a0) ++ List.map Sy.str.enc a0.2.2.2.2.2.2.1.2.2.2.2).length : Int))) (aR Sy.str ((BNC a0) :: (BNB a0) :: ((([]++(BMY a0)))++(BMU a0))) s37.2.1 λ(y38:iII)=>iJ Sy.str ((BNC a0) :: (BNB a0) :: ((([]++(BMY a0)))++(BMU a0))) (Int.toNat s37.2.1) 0 λ(y39:iII)=>BMM s37 y39 X36) (BNA R s37)) ([],0,()))))) (aC (decide (a0.1=11)) (BMZ a0 R) (aC (decide (a0.1=12)) (BMZ a0 R) (aC (decide (a0.1=2)) (BM2 a0 R) (aC (decide (a0.1=4)) (BM2 a0 R) (aC (decide (a0.1=8)) (BMV a0 R) (aC (decide (a0.1=10)) (BMV a0 R) (bB (List iII×Int×PUnit) (λX72 s73=>aC (decide (s73.2.1<(↑0:Int))) (aR Sy.str [] s73.2.1 λ(y74:iII)=>aJ BMD (dE [T.sl false (BMT s73), pPQ y74]) λ(y75:List iII)=>BND y75 X72 s73) (BNA R s73)) ([],0,())))))))))))))
abbrev yB:Sh:=[(true,aN)]
def AX (l:List iII):List iII:=l.foldl mH []
def AR0 (l:List iII) (s:iII):(mH l s).length<=l.length+1:=by
 unfold mH;split
 ·omega
 split
 ·omega
 ·rw[ABM];exact al _
variable {L:List iII}{R:T->Prop}
def PY {rows:List (List T)} {n:Int} (hr:rows=List.map Sy.str.enc L) (hn:n=(L.length:Int)) (hl:L.length<=5000000) {Body:(List iII×Int×PUnit->Prop)->List iII×Int×PUnit->iII->Prop}
  (hB:∀ (X:List iII×Int×PUnit->Prop) (s:List iII×Int×PUnit) (k:Nat) (h:k<L.length),s.2.1=(k:Int)->aJ [(false,Sy.str.li)] (dE [T.sl false (List.map Sy.str.enc s.1),pPQ (L[k])]) (λy=>dM Sy.str (List.map Sy.str.enc y) λy4=>X (y4,i64.wrap (s.2.1+1),()))->Body X s L[k])
  (h:R (T.sl false (List.map Sy.str.enc (AX L)))) :
  bB (List iII×Int×PUnit) (λX s=>aC (decide (s.2.1<n)) (aR Sy.str rows s.2.1 λy=>Body X s y) (R (T.sl false (List.map Sy.str.enc s.1)))) ([],0,()):=by
 subst hr;subst hn;refine bK L.length (λk s=>s.2.1=(k:Int)/\s.1=AX (L.take k)/\s.1.length<=k) ⟨rfl,rfl,al _⟩ ?_;rintro X k ⟨o,i,u⟩ hk ⟨hi,ho,hol⟩ hX;dsimp only at hi ho hol ⊢;subst hi;refine cA (λhlt=>?_) λhge=>?_
 ·have hlt:k<L.length:=by omega
  rw[bD (r:=.str) hlt];refine hB X _ k hlt rfl ?_;refine aF (s:=[(false,Sy.str.li)]) (y:=mH o L[k]) ((ABD ..).trans ?_) ?_
  ·unfold uJ;dsimp only;rw[ai (by omega:o.length<=10000000)];rfl
  ·rw[dH (r:=.str) rfl];have hw:=AR0 o L[k];refine hX _ hlt ⟨?_,?_,?_⟩
   ·show i64.wrap ((k:Int)+1)=_;rw[bG]<;>omega
   ·show mH o L[k]=AX (L.take (k+1));rw[ho,List.take_add_one,List.getElem?_eq_getElem hlt];unfold AX;rw[List.foldl_append];rfl
   ·show (mH o L[k]).length<=k+1;omega
 ·have hkl:k=L.length:=by omega
  subst hkl;rw[List.take_length] at ho;rw[ho];exact h
def BEV {rows:List (List T)} {k:Nat} {K:iII->Prop} (hr:rows=List.map Sy.str.enc L) (h:k<L.length) (hk:K L[k]):iJ Sy.str rows k 0 K:=by
 subst hr;rw[iK (r:=.str) h];exact hk
def dX {rows:List (List T)} {n:Int} (hr:rows=List.map Sy.str.enc L) (hn:n=(L.length:Int)) (hl:L.length<=5000000) :
  bB (List iII×Int×PUnit) (λX s=>aC (decide (s.2.1<n)) (aR Sy.str rows s.2.1 λy=>aJ [(false,Sy.str.li)] (dE [T.sl false (List.map Sy.str.enc s.1),pPQ y]) λy=>dM Sy.str (List.map Sy.str.enc y) λy4=>X (y4,i64.wrap (s.2.1+1),())) (T.sl false (List.map Sy.str.enc s.1)=T.sl false (List.map Sy.str.enc (AX L)))) ([],0,()) :=
 PY (R:=λy=>y=T.sl false (List.map Sy.str.enc (AX L))) (Body:=λX s y=>aJ [(false,Sy.str.li)] (dE [T.sl false (List.map Sy.str.enc s.1),pPQ y]) λy=>dM Sy.str (List.map Sy.str.enc y) λy4=>X (y4,i64.wrap (s.2.1+1),())) hr hn hl (λX s k h e hc=>hc) rfl
def JB {rows:List (List T)} {n:Int} (hr:rows=List.map Sy.str.enc L) (hn:n=(L.length:Int)) (hl:L.length<=5000000) :
  bB (List iII×Int×PUnit) (λX s=>aC (decide (s.2.1<n)) (aR Sy.str rows s.2.1 λ_=>iJ Sy.str rows (Int.toNat s.2.1) 0 λy=>aJ [(false,Sy.str.li)] (dE [T.sl false (List.map Sy.str.enc s.1),pPQ y]) λy=>dM Sy.str (List.map Sy.str.enc y) λy4=>X (y4,i64.wrap (s.2.1+1),())) (T.sl false (List.map Sy.str.enc s.1)=T.sl false (List.map Sy.str.enc (AX L)))) ([],0,()) :=
 PY (R:=λy=>y=T.sl false (List.map Sy.str.enc (AX L))) (Body:=λX s _=>iJ Sy.str rows (Int.toNat s.2.1) 0 λy=>aJ [(false,Sy.str.li)] (dE [T.sl false (List.map Sy.str.enc s.1),pPQ y]) λy=>dM Sy.str (List.map Sy.str.enc y) λy4=>X (y4,i64.wrap (s.2.1+1),())) hr hn hl (λX s k h e hc=>by
  have:Int.toNat s.2.1=k:=by omega
  show iJ Sy.str rows (Int.toNat s.2.1) 0 _;rw[this];exact BEV hr h hc) rfl
def nD (x:aX):Option T:=match VY x with
 | true=>some (T.sl false (List.map Sy.str.enc (AX (cR x))))
 | false=>none
noncomputable def l9:List T->Option T:=gS yB nD
def NT {a0}:l9 [aG true aN a0]=nD (a0):=bI (s:=yB) rfl (a0) rfl
def VX:wP Tryz.prog 49 l9 nD (cC yB) wL:=jZ (a1:=(true,aN)) (sp:=nD) (F:=wL) (Hs:=YW) (f:=49) (k:=8) P6 aY a7 (aO rfl) ⟨_,_,Tryz.func49,rfl⟩ rfl λ_ _=>by kernel_rfl
def U2:aP Tryz.prog 49 l9:=VX λx r h hb=>by
 clear hb;obtain ⟨hp,rfl⟩:=zK h;clear h;unfold VY at hp;rw[ac,ah,ah] at hp;obtain ⟨hp1,hp2⟩:=hp;unfold wL BM3 BNC BNB BM2 BM1 BMZ BMY BMV BNA BMU BMM BND BMN BMT BMD;have e1:x.1=1->cR x=[x.2.2.2.1.1,x.2.2.2.1.2.2]:=λh=>by simp only[cR,h,if_true]
 have e2:x.1=2\/x.1=4\/x.1=8\/x.1=10->cR x=[x.2.1]:=λh=>by
  unfold cR;rw[if_neg (by omega),if_pos h]
 have e3:x.1=3\/x.1=5->cR x=[x.2.2.2.2.1.1,x.2.2.2.2.1.2.2.2.1]:=λh=>by
  unfold cR;rw[if_neg (by omega),if_neg (by omega),if_pos h]
 have e6:x.1=6->cR x=[x.2.1,x.2.2.1]:=λh=>by
  unfold cR;rw[if_neg (by omega),if_neg (by omega),if_neg (by omega),if_pos h]
 have e7:x.1=7->cR x=[x.2.2.2.2.2.1.1,x.2.2.2.2.2.1.2.1,x.2.2.2.2.2.1.2.2.1]:=λh=>by
  unfold cR;rw[if_neg (by omega),if_neg (by omega),if_neg (by omega),if_neg (by omega),if_pos h]
 have e9:x.1=9->cR x=([x.2.2.2.2.2.2.1.1,x.2.2.2.2.2.2.1.2.1]++x.2.2.2.2.2.2.1.2.2.1)++x.2.2.2.2.2.2.1.2.2.2.2:=λh=>by
  unfold cR;rw[if_neg (by omega),if_neg (by omega),if_neg (by omega),if_neg (by omega),if_neg (by omega),if_pos h]
 have e11:x.1=11\/x.1=12->cR x=[x.2.2.2.2.2.2.2.2.1,x.2.2.2.2.2.2.2.2.2]:=λh=>by
  unfold cR;rw[if_neg (by omega),if_neg (by omega),if_neg (by omega),if_neg (by omega),if_neg (by omega),if_neg (by omega),if_pos h]
 refine cA (λh=>by rw[e1 h];exact dX (L:=[x.2.2.2.1.1,x.2.2.2.1.2.2]) rfl rfl (by simp)) λn1=>?_;refine cA (λh=>by rw[e3 (by omega)];exact dX (L:=[x.2.2.2.2.1.1,x.2.2.2.2.1.2.2.2.1]) rfl rfl (by simp)) λn3=>?_;refine cA (λh=>by rw[e3 (by omega)];exact dX (L:=[x.2.2.2.2.1.1,x.2.2.2.2.1.2.2.2.1]) rfl rfl (by simp)) λn5=>?_;refine cA (λh=>by rw[e6 h];exact dX (L:=[x.2.1,x.2.2.1]) rfl rfl (by simp)) λn6=>?_;refine cA (λh=>by rw[e7 h];exact dX (L:=[x.2.2.2.2.2.1.1,x.2.2.2.2.2.1.2.1,x.2.2.2.2.2.1.2.2.1]) rfl rfl (by simp)) λn7=>?_;refine cA (λh=>?_) λn9=>?_
 ·rw[e9 h];refine vA (λhB=>?_) λhB=>?_
  ·have eB:x.2.2.2.2.2.2.1.2.2.1=[]:=by simpa using hB
   refine vA (λhC=>?_) λhC=>?_
   ·have eC:x.2.2.2.2.2.2.1.2.2.2.2=[]:=by simpa using hC
    rw[eB,eC];exact dX (L:=[x.2.2.2.2.2.2.1.1,x.2.2.2.2.2.2.1.2.1]) rfl rfl (by simp)
   ·rw[eB];refine ⟨?_,?_⟩
    ·rw[ac,ac];exact ⟨⟨UL,ai (by simp;omega)⟩,ai (by simp;omega)⟩
    ·exact JB (L:=([x.2.2.2.2.2.2.1.1,x.2.2.2.2.2.2.1.2.1]++[])++x.2.2.2.2.2.2.1.2.2.2.2) rfl (by simp[UT];try omega) (by simp;omega)
  ·refine ⟨?_,?_,?_⟩
   ·rw[ac,ac];exact ⟨⟨UL,ai (by simp;omega)⟩,ai (by simp;omega)⟩
   ·rw[ac,ac];exact ⟨⟨UL,ai (by simp[UT];omega)⟩,ai (by simp[UT];omega)⟩
   ·have er:∀ {a b:List T} {B C:List iII} {p q:iII},a=[pPQ p]->b=[pPQ q]->a::b::(([]++List.map Sy.str.enc B)++List.map Sy.str.enc C)=List.map Sy.str.enc (([p,q]++B)++C):=λh1 h2=>by
     subst h1 h2;rw[List.map_append,List.map_append];rfl
    exact JB (L:=([x.2.2.2.2.2.2.1.1,x.2.2.2.2.2.2.1.2.1]++x.2.2.2.2.2.2.1.2.2.1)++x.2.2.2.2.2.2.1.2.2.2.2) (er rfl rfl) (by simp[UT];try omega) (by simp;omega)
 refine cA (λh=>by rw[e11 (by omega)];exact dX (L:=[x.2.2.2.2.2.2.2.2.1,x.2.2.2.2.2.2.2.2.2]) rfl rfl (by simp)) λn11=>?_;refine cA (λh=>by rw[e11 (by omega)];exact dX (L:=[x.2.2.2.2.2.2.2.2.1,x.2.2.2.2.2.2.2.2.2]) rfl rfl (by simp)) λn12=>?_;refine cA (λh=>by rw[e2 (by omega)];exact dX (L:=[x.2.1]) rfl rfl (by simp)) λn2=>?_;refine cA (λh=>by rw[e2 (by omega)];exact dX (L:=[x.2.1]) rfl rfl (by simp)) λn4=>?_;refine cA (λh=>by rw[e2 (by omega)];exact dX (L:=[x.2.1]) rfl rfl (by simp)) λn8=>?_;refine cA (λh=>by rw[e2 (by omega)];exact dX (L:=[x.2.1]) rfl rfl (by simp)) λn10=>?_;have e:cR x=[]:=by
  unfold cR;rw[if_neg (by omega),if_neg (by omega),if_neg (by omega),if_neg (by omega),if_neg (by omega),if_neg (by omega),if_neg (by omega)]
 rw[e];exact dX (L:=[]) rfl rfl (by simp)
def NY:∀ {l:List iII} {s a:iII},a∈AL l s↔a∈l\/a=s
 | [],s,a=>by simp[AL]
 | b::l,s,a=>by
  cases h:gtB b s with
  | true=>rw[VM h];simp only[List.mem_cons];constructor<;>rintro (h|h|h)<;>simp[h]
  | false =>
   rw[VN h];simp only[List.mem_cons,NY];constructor
   ·rintro (h|h|h)<;>simp[h]
   ·rintro ((h|h)|h)<;>simp[h]
def AZO {a b:iII} (h:gtB a b=true):toL b<toL a:=by
 unfold gtB at h;rw[Bool.not_eq_true',Bool.or_eq_false_iff,decide_eq_false_iff_not] at h;have h1:¬ toL a<toL b:=λh'=>by rw[(WU a b).2 h'] at h;cases h.1
 refine Decidable.byContradiction λhn=>h.2 ?_;have:=List.le_antisymm (List.not_lt.1 h1) (List.not_lt.1 hn);rw[<-jS a,<-jS b,this]
def BCZ {a b:iII} (h:gtB a b=false) (hne:a≠b):toL a<toL b:=by
 unfold gtB at h;rw[Bool.not_eq_false',Bool.or_eq_true,ah] at h;exact (WU a b).1 (h.resolve_right hne)
def AL8 (l:List iII):Prop:=l.Pairwise λa b=>toL a<toL b
def ABL:∀ {l:List iII} {s:iII},AL8 l->s∉l->AL8 (AL l s)
 | [],s,_,_=>List.pairwise_singleton _ _
 | b::l,s,h,hn=>by
  have hb:=List.pairwise_cons.1 h;have hn':s≠b/\s∉l:=by simpa using hn
  cases hg:gtB b s with
  | true =>
   rw[VM hg];refine List.pairwise_cons.2 ⟨λa ha=>?_,h⟩;rcases List.mem_cons.1 ha with e|e
   ·subst e;exact AZO hg
   ·exact List.lt_trans (AZO hg) (hb.1 a e)
  | false =>
   rw[VN hg];refine List.pairwise_cons.2 ⟨λa ha=>?_,ABL hb.2 hn'.2⟩;rcases NY.1 ha with e|e
   ·exact hb.1 a e
   ·subst e;exact BCZ hg (λe=>hn'.1 e.symm)
def NW {l:List iII} {a:iII}:VI l a=true↔a∈l:=by
 unfold VI;simp
def ARZ {l:List iII} {s:iII} (h:AL8 l):AL8 (mH l s):=by
 unfold mH;split
 ·exact h
 split
 ·exact h
 ·rename_i h1 h2;exact ABL h λhm=>h2 (NW.2 hm)
def AR1 {l:List iII} {s a:iII}:a∈mH l s↔a∈l\/(a=s/\s≠⟨#[]⟩):=by
 unfold mH;split
 ·rename_i h;simp[h]
 split
 ·rename_i h1 h2;have:=NW.1 h2;constructor
  ·exact .inl
  ·rintro (h|⟨h,_⟩)
   ·exact h
   ·rw[h];exact this
 ·rename_i h1 h2;rw[NY];simp[h1]
def ND:∀ (m l:List iII),AL8 l->AL8 (m.foldl mH l)/\∀ a,a∈m.foldl mH l↔a∈l\/(a∈m/\a≠⟨#[]⟩)
 | [],l,h=>⟨h,λa=>by simp⟩
 | s::m,l,h=>by
  obtain ⟨h1,h2⟩:=ND m (mH l s) (ARZ h);refine ⟨h1,λa=>?_⟩;rw[List.foldl_cons,h2,AR1,List.mem_cons];constructor
  ·rintro ((h|⟨h,h'⟩)|⟨h,h'⟩)
   ·exact .inl h
   ·exact .inr ⟨.inl h,by rw[h];exact h'⟩
   ·exact .inr ⟨.inr h,h'⟩
  ·rintro (h|⟨h|h,h'⟩)
   ·exact .inl (.inl h)
   ·exact .inl (.inr ⟨h,by rw[<-h];exact h'⟩)
   ·exact .inr ⟨h,h'⟩
def AJI (l:List iII):AX l=lA l:=by
 obtain ⟨h1,h2⟩:=ND l [] List.Pairwise.nil;refine ABW (MA (List.pairwise_map.2 h1) (A0R l) λa=>?_);rw[SV];constructor
 ·intro h;obtain ⟨b,hb,rfl⟩:=List.mem_map.1 h;rcases (h2 b).1 hb with h|⟨h,h'⟩
  ·cases h
  ·exact ⟨List.mem_map.2 ⟨b,h,rfl⟩,λe=>h' (by rw[<-jS b,e];rfl)⟩
 ·rintro ⟨h,hne⟩;obtain ⟨b,hb,rfl⟩:=List.mem_map.1 h;exact List.mem_map.2 ⟨b,(h2 b).2 (.inr ⟨hb,λe=>hne (by rw[e];rfl)⟩),rfl⟩
end Go.Pv
namespace Go.Pv
open Go Go.Proofs IntKind
def A20 {a b:iII}:cD a b=true↔ltB a b:=WU a b
def FH (l:List aX):List iII:=AFL (l.flatMap λe=>lA (cR e))
def A8T (l:List aX):(FH l).Pairwise ltB:=A5N _
def AC7 {l:List aX} {s:iII}:s∈FH l↔∃ e∈l,s∈lA (cR e):=by
 unfold FH;rw[AWM,List.mem_flatMap]
def dC:List iII->iII->List iII
 | [],s=>[s]
 | a::l,s=>if cD a s=true then a::dC l s else if a=s then a::l else s::a::l
def P1:∀ (l:List iII) (s:iII),(dC l s).length<=l.length+1
 | [],_=>by simp[dC]
 | a::l,s=>by
  unfold dC;split
  ·have:=P1 l s;simp;omega
  split
  ·simp
  ·simp
def CT:∀ {l:List iII} {s x:iII},x∈dC l s↔x∈l\/x=s
 | [],s,x=>by simp[dC]
 | a::l,s,x=>by
  unfold dC;split
  ·rw[List.mem_cons,CT,List.mem_cons,or_assoc]
  split
  ·rename_i _ h;rw[List.mem_cons];constructor
   ·exact .inl
   ·rintro (h'|h')
    ·exact h'
    ·exact .inl (h'.trans h.symm)
  ·rw[List.mem_cons,Or.comm]
def P0:∀ {l:List iII} {s:iII},l.Pairwise ltB->(dC l s).Pairwise ltB
 | [],s,_=>List.pairwise_singleton _ _
 | a::l,s,h=>by
  have ha:=List.pairwise_cons.1 h;unfold dC;split
  ·rename_i h1;refine List.pairwise_cons.2 ⟨λx hx=>?_,P0 ha.2⟩;rcases CT.1 hx with h2|h2
   ·exact ha.1 x h2
   ·rw[h2];exact A20.1 h1
  split
  ·exact h
  ·rename_i h1 h2;have hlt:ltB s a:=Classical.byContradiction λhn=>h2 (BIB.tot (λh'=>h1 (A20.2 h')) hn);refine List.pairwise_cons.2 ⟨λx hx=>?_,h⟩;rcases List.mem_cons.1 hx with rfl|hx
   ·exact hlt
   ·exact BIB.tr hlt (ha.1 x hx)
def JD:∀ (m l:List iII),l.Pairwise ltB->(m.foldl dC l).Pairwise ltB/\∀ x,x∈m.foldl dC l↔x∈l\/x∈m
 | [],l,h=>⟨h,λx=>by simp⟩
 | s::m,l,h=>by
  obtain ⟨h1,h2⟩:=JD m (dC l s) (P0 h);refine ⟨h1,λx=>?_⟩;rw[List.foldl_cons,h2,CT,List.mem_cons,or_assoc]
def vY (o:List iII) (l:List aX):List iII:=l.foldl (λo e=>(lA (cR e)).foldl dC o) o
def NC:∀ (l:List aX) (o:List iII),o.Pairwise ltB->(vY o l).Pairwise ltB/\∀ x,x∈vY o l↔x∈o\/∃ e∈l,x∈lA (cR e)
 | [],o,h=>⟨h,λx=>by simp[vY]⟩
 | e::l,o,h=>by
  obtain ⟨g1,g2⟩:=JD (lA (cR e)) o h;obtain ⟨h1,h2⟩:=NC l ((lA (cR e)).foldl dC o) g1;refine ⟨h1,λx=>?_⟩;show x∈vY ((lA (cR e)).foldl dC o) l↔_;rw[h2,g2,or_assoc];simp
def AO9 (l:List aX):vY [] l=FH l:=by
 obtain ⟨h1,h2⟩:=NC l [] List.Pairwise.nil;exact A5M h1 (A8T l) λs=>by rw[h2,AC7];simp
end Go.Pv
namespace Go.Pv
open Go Go.Proofs IntKind
noncomputable def ATC:Env:=Env.of []
def AWA:FuncId->Hint:=b6 50 [(3,.inv [.own 5 1 .str,.val 6 false (.int .i64)])] (λ_=>bA)
def AEJ:aV Tryz.prog ATC:=.nil _
def BM4(s1:List iII×Int×PUnit)(a1:iII):List (List T):=List.map Sy.str.enc s1.1 ++ [[pPQ a1].reverse].reverse
def BM8(s1:List iII×Int×PUnit)(a1:iII)(a0:List iII):T:=T.sl false (List.map Sy.str.enc s1.1++(BNK a1) ++ List.drop (Int.toNat s1.2.1) (List.take (BMN a0).length (BMN a0)))
def BNG(s1:List iII×Int×PUnit)(a1:iII):List (List T):=List.map Sy.str.enc s1.1++[[pPQ a1].reverse].reverse
def BMS(a0:List iII)(s1:List iII×Int×PUnit)(a1:iII)(R:T->Prop):Prop:=bR (mY 1 (BMN a0) && decide ((BMN a0).length<=(BMN a0).length) && (decide (0<=s1.2.1)&&decide (Int.toNat s1.2.1<=(BMN a0).length))) (bR (eQ 1 (List.drop (Int.toNat s1.2.1) (List.take (BMN a0).length (BMN a0))) && decide (((BM4 s1 a1).length + (List.drop (Int.toNat s1.2.1) (List.take (BMN a0).length (BMN a0))).length) * 16 <= 140737488355328) && decide ((BNG s1 a1).length + (List.drop (Int.toNat s1.2.1) (List.take (BMN a0).length (BMN a0))).length <= 140737488355328)) (R (BM8 s1 a1 a0)))
def BNS(s1:List iII×Int×PUnit)(a1:iII)(a0:List iII):T:=T.sl false (List.map Sy.str.enc s1.1++(BNK a1) ++ List.drop (i64.wrap (s1.2.1+1)).toNat (List.take (BMN a0).length (BMN a0)))
def LW(a0:List iII)(a1:iII)(R:T->Prop):Prop:=bB (List iII×Int×PUnit) (λX0 s1=>aC (decide (s1.2.1<(↑(BMN a0).length:Int))) (aR Sy.str (BMN a0) s1.2.1 λ(y2:iII)=>aC (cD y2 a1) (aR Sy.str (BMN a0) s1.2.1 λ(y3:iII)=>bR (decide (((BMT s1).length+1)*16<=140737488355328) && decide ((BMT s1).length+1<=140737488355328)) (dM Sy.str (List.map Sy.str.enc s1.1++(BNK y3)) λ(y4:List iII)=>X0 (y4,i64.wrap (s1.2.1+1),()))) (bR (decide (((BMT s1).length+1)*16<=140737488355328) && decide ((BMT s1).length+1<=140737488355328)) (aC (decide (s1.2.1<(↑(BMN a0).length:Int))) (aR Sy.str (BMN a0) s1.2.1 λ(y5:iII)=>aC (decide (y5=a1)) (bR (mY 1 (BMN a0) && decide ((BMN a0).length<=(BMN a0).length) && (decide (0<=i64.wrap (s1.2.1+1)) && decide ((i64.wrap (s1.2.1+1)).toNat<=(BMN a0).length))) (bR (eQ 1 (List.drop (i64.wrap (s1.2.1+1)).toNat (List.take (BMN a0).length (BMN a0))) && decide (((BM4 s1 a1).length + (List.drop (i64.wrap (s1.2.1+1)).toNat (List.take (BMN a0).length (BMN a0))).length) * 16 <= 140737488355328) && decide ((BM4 s1 a1).length + (List.drop (i64.wrap (s1.2.1+1)).toNat (List.take (BMN a0).length (BMN a0))).length <= 140737488355328)) (R (BNS s1 a1 a0)))) (bR (mY 1 (BMN a0) && decide ((BMN a0).length<=(BMN a0).length) && (decide (0<=s1.2.1) && decide (Int.toNat s1.2.1<=(BMN a0).length))) (bR (eQ 1 (List.drop (Int.toNat s1.2.1) (List.take (BMN a0).length (BMN a0))) && decide (((BM4 s1 a1).length + (List.drop (Int.toNat s1.2.1) (List.take (BMN a0).length (BMN a0))).length) * 16 <= 140737488355328) && decide ((BM4 s1 a1).length + (List.drop (Int.toNat s1.2.1) (List.take (BMN a0).length (BMN a0))).length <= 140737488355328)) (R (BM8 s1 a1 a0))))) (BMS a0 s1 a1 R)))) (bR (decide (((BMT s1).length+1)*16<=140737488355328) && decide ((BMT s1).length+1<=140737488355328)) (aC (decide (s1.2.1<(↑(BMN a0).length:Int))) (aR Sy.str (BMN a0) s1.2.1 λ(y6:iII)=>aC (decide (y6=a1)) (bR (mY 1 (BMN a0) && decide ((BMN a0).length<=(BMN a0).length) && (decide (0<=i64.wrap (s1.2.1+1)) && decide ((i64.wrap (s1.2.1+1)).toNat<=(BMN a0).length))) (bR (eQ 1 (List.drop (i64.wrap (s1.2.1+1)).toNat (List.take (BMN a0).length (BMN a0))) && decide (((BM4 s1 a1).length + (List.drop (i64.wrap (s1.2.1+1)).toNat (List.take (BMN a0).length (BMN a0))).length) * 16 <= 140737488355328) && decide ((BNG s1 a1).length + (List.drop (i64.wrap (s1.2.1+1)).toNat (List.take (BMN a0).length (BMN a0))).length <= 140737488355328)) (R (BNS s1 a1 a0)))) (BMS a0 s1 a1 R)) (bR (mY 1 (BMN a0) && decide ((BMN a0).length<=(BMN a0).length) && (decide (0<=s1.2.1)&&decide (Int.toNat s1.2.1<=(BMN a0).length))) (bR (eQ 1 (List.drop (Int.toNat s1.2.1) (List.take (BMN a0).length (BMN a0))) && decide (((BNG s1 a1).length + (List.drop (Int.toNat s1.2.1) (List.take (BMN a0).length (BMN a0))).length) * 16 <= 140737488355328) && decide ((BNG s1 a1).length + (List.drop (Int.toNat s1.2.1) (List.take (BMN a0).length (BMN a0))).length <= 140737488355328)) (R (BM8 s1 a1 a0))))))) ([],0,())
abbrev PF:Sh:=[(false,Sy.str.li),(false,Sy.str)]
def uK (x:List iII×iII):Option T:=match decide (x.1.length<=1000000000) with
 | true=>some (T.sl false (List.map Sy.str.enc (dC x.1 x.2)))
 | false=>none
noncomputable def tV:List T->Option T:=gS PF uK
def ABE {a0 a1}:tV [T.sl false (List.map Sy.str.enc a0),pPQ a1]=uK (a0,a1):=bI (s:=PF) rfl (a0,a1) rfl
def AQ9:rJ Tryz.prog 50 tV uK (cC PF) LW:=gZ (a1:=(false,Sy.str.li)) (a2:=(false,Sy.str)) (sp:=uK) (F:=LW) (Hs:=AWA) (f:=50) (k:=8) AEJ aY a7 (aO rfl) ⟨_,_,Tryz.func50,rfl⟩ rfl λ_ _ _=>by kernel_rfl
abbrev A5Y (rows:List (List T)) (o:List (List T)) (a:iII) (i:Int) (R:T->Prop):Prop :=
 bR (mY 1 rows&&decide (rows.length<=rows.length)&&(decide (0<=i)&&decide (Int.toNat i<=rows.length)))
  (bR (eQ 1 (List.drop (Int.toNat i) (List.take rows.length rows))&&decide (((o++[[pPQ a].reverse].reverse).length+(List.drop (Int.toNat i) (List.take rows.length rows)).length)*16<=140737488355328)&&decide ((o++[[pPQ a].reverse].reverse).length+(List.drop (Int.toNat i) (List.take rows.length rows)).length<=140737488355328))
   (R (T.sl false (o++[[pPQ a]]++List.drop (Int.toNat i) (List.take rows.length rows)))))
variable {R:T->Prop}
def AW4 {l out:List iII} {a:iII} {j:Nat} (hj:j<=l.length) (hl:l.length<=1000000000) (ho:out.length<=1000000000) {i:Int} (hi:i=(j:Int)) (hR:R (T.sl false (List.map Sy.str.enc (out++a::l.drop j)))) :
  A5Y (List.map Sy.str.enc l) (List.map Sy.str.enc out) a i R:=by
 subst hi;have hd:List.drop (Int.toNat (j:Int)) (List.take (List.map Sy.str.enc l).length (List.map Sy.str.enc l))=List.map Sy.str.enc (l.drop j):=by
  rw[List.take_length,Int.toNat_natCast,List.map_drop]
 have hh:mY 1 (List.map Sy.str.enc l)=true:=by cases l<;>rfl
 refine ⟨?_,?_,?_⟩
 ·rw[hh,Int.toNat_natCast,ae];simp only[ac,ah,Bool.true_and];exact ⟨al _,by omega,hj⟩
 ·rw[hd,UL];simp only[ac,ah,Bool.true_and,List.length_append,ae,List.length_drop,List.reverse_cons,List.reverse_nil,List.nil_append,List.length_cons,List.length_nil];omega
 ·rw[hd];rw[List.map_append,List.map_cons] at hR;rw[List.append_assoc];exact hR
abbrev BHN (rows:List (List T)) (o:List (List T)) (a:iII) (i:Int) (R:T->Prop):Prop :=
 bR (decide ((o.length+1)*16<=140737488355328)&&decide (o.length+1<=140737488355328)) (aC (decide (i<(↑rows.length:Int)))
  (aR Sy.str rows i λy=>aC (decide (y=a)) (A5Y rows o a (i64.wrap (i+1)) R) (A5Y rows o a i R)) (A5Y rows o a i R))
def BHO {l:List iII} {a:iII} {k:Nat} (hk:k<=l.length) (hl:l.length<=1000000000) (hw:dC l a=l.take k++dC (l.drop k) a) (hs:∀ h:k<l.length,cD l[k] a=false) (hR:R (T.sl false (List.map Sy.str.enc (dC l a)))) :
  BHN (List.map Sy.str.enc l) (List.map Sy.str.enc (l.take k)) a (k:Int) R:=by
 have ho:(l.take k).length<=1000000000:=by rw[List.length_take];omega
 rw[hw] at hR;refine ⟨by rw[ae,ac];exact ⟨ai (by omega),ai (by omega)⟩,?_⟩;rw[ae];refine cA (λhlt=>?_) λhge=>?_
 ·have hlt:k<l.length:=by omega
  have hd:l.drop k=l[k]::l.drop (k+1):=List.drop_eq_getElem_cons hlt;have hn:=hs hlt;rw[bD (r:=.str) hlt];rw[hd,dC,if_neg (by rw[hn];exact Bool.false_ne_true)] at hR;refine cA (λhe=>?_) λhe=>?_
  ·rw[if_pos he] at hR;refine AW4 (j:=k+1) (by omega) hl ho (bG _ (by omega) (by omega)) ?_;rw[he] at hR;exact hR
  ·rw[if_neg he,<-hd] at hR;exact AW4 (j:=k) (by omega) hl ho rfl hR
 ·have hd:l.drop k=[]:=List.drop_eq_nil_of_le (by omega);refine AW4 (j:=k) hk hl ho rfl ?_;rw[hd] at hR ⊢;exact hR
def AO8:aP Tryz.prog 50 tV:=AQ9 λl a r h hb=>by
 clear hb;obtain ⟨hl,rfl⟩:=zK h;clear h;have hl:l.length<=1000000000:=of_decide_eq_true hl;unfold LW BNS BMS BNG BM8 BNK BM4 BMN BMT;refine bK l.length (λk s=>s=(l.take k,(k:Int),())/\dC l a=l.take k++dC (l.drop k) a) ⟨rfl,rfl⟩ ?_;rintro X k s hk ⟨rfl,hw⟩ hX;dsimp only;have fin:(∀ h:k<l.length,cD l[k] a=false)->BHN (List.map Sy.str.enc l) (List.map Sy.str.enc (l.take k)) a (k:Int) (λy=>y=T.sl false (List.map Sy.str.enc (dC l a))):=λh=>BHO hk hl hw h rfl;by_cases hlt:k<l.length
 ·refine eN (by simp[hlt]) ?_;rw[bD (r:=.str) hlt];refine vA (λhs=>?_) λhs=>?_
  ·rw[bD (r:=.str) hlt,AFJ (by rw[List.length_take];omega),MO];refine hX _ hlt ⟨?_,?_⟩
   ·rw[List.take_succ_eq_append_getElem hlt,show i64.wrap ((k:Int)+1)=((k+1:Nat):Int) from bG _ (by omega) (by omega)]
   ·rw[hw,List.take_succ_eq_append_getElem hlt,List.append_assoc,List.drop_eq_getElem_cons hlt,dC,if_pos hs];rfl
  ·exact fin λ_=>hs
 ·refine gK (by simp[hlt]) ?_;exact fin λh=>absurd h hlt
noncomputable def A3R:Env:=Env.of [(49,.pure l9),(50,.pure tV)]
def A49:FuncId->Hint:=b6 19 [(3,.inv [.val 3 false (.li .str),.val 4 false (.int .i64)]),(7,.inv [.val 3 false (.li .str),.val 6 false (.int .i64)])] (λ_=>bA)
def AMX:aV Tryz.prog A3R:=.cons U2 (.cons AO8 (.nil _))
def UC(a0:cZ)(R:T->Prop):Prop:=bB (List iII×Int×PUnit) (λX0 s1=>aC (decide (s1.2.1<(↑(BM7 a0).length:Int))) (aR aN (BM7 a0) s1.2.1 λ(y2:aX)=>aJ BMD (l9 [aG true aN y2]) λ(y3:List iII)=>dM Sy.str (BMT s1) λ(y4:List iII)=>bB (List iII×Int×PUnit) (λX5 s6=>aC (decide (s6.2.1<(↑(BMN y3).length:Int))) (aR Sy.str (BMN y3) s6.2.1 λ(y7:iII)=>aJ BMD (tV [T.sl false (BMT s6),pPQ y7]) λ(y8:List iII)=>BND y8 X5 s6) (dM Sy.str (BMT s6) λ(y10:List iII)=>X0 (y10,i64.wrap (s1.2.1+1),()))) (y4,0,())) (BNA R s1)) ([],0,())
abbrev WN:Sh:=[(true,dF)]
def A1D (o:cZ):Bool:=decide (o.2.length<=100)&&o.2.all VY
def A8C {o:cZ} (h:A1D o=true):o.2.length<=100/\∀ e∈o.2,VY e=true:=by
 unfold A1D at h;rw[ac,ah] at h;exact ⟨h.1,List.all_eq_true.1 h.2⟩
def PZ (q:List (List UInt8)->List (List UInt8)) (l:List iII) (h:∀ m,(q m).length<=m.length):(yM q l).length<=l.length:=by
 unfold yM;rw[ae];exact Nat.le_trans (h _) (by simp)
def AQF (l:List iII):(lA l).length<=l.length:=by
 unfold lA;refine Nat.le_trans (PZ _ _ λm=>List.length_filter_le _ _) (Nat.le_trans (PZ _ _ AFW) (PZ _ _ λm=>by unfold kU;simp))
def AHJ {x:aX} (h:VY x=true):(cR x).length<=2000010:=by
 unfold VY at h;rw[ac,ah,ah] at h;unfold cR
 repeat' split
 all_goals simp only[List.length_cons,List.length_nil,List.length_append]
 all_goals omega
def B2:∀ (m l:List iII),(m.foldl dC l).length<=l.length+m.length
 | [],l=>by simp
 | s::m,l=>by
  have h1:=B2 m (dC l s);have h2:=P1 l s;rw[List.foldl_cons,List.length_cons];omega
def yI (o:cZ):Option T:=match A1D o with
 | true=>some (T.sl false (List.map Sy.str.enc (FH o.2)))
 | false=>none
noncomputable def DO:List T->Option T:=gS WN yI
def AGZ {a0}:DO [aG true dF a0]=yI (a0):=bI (s:=WN) rfl (a0) rfl
def A08:wP Tryz.prog 19 DO yI (cC WN) UC:=jZ (a1:=(true,dF)) (sp:=yI) (F:=UC) (Hs:=A49) (f:=19) (k:=8) AMX aY a7 (aO rfl) ⟨_,_,Tryz.func19,rfl⟩ rfl λ_ _=>by kernel_rfl
variable {M:Nat}
def AJH {l:List aX} (hM:M<=3000000) (hl:l.length<=100) (hN:∀ e∈l,(lA (cR e)).length<=M) (hok:∀ e∈l,VY e=true) (hR:R (T.sl false (List.map Sy.str.enc (vY [] l)))) :
  bB (List iII×Int×PUnit) (λX0 s1=>aC (decide (s1.2.1<(↑(List.map aN.enc l).length:Int))) (aR aN (List.map aN.enc l) s1.2.1 λy2=>aJ [(false,Sy.str.li)] (l9 [aG true aN y2]) λ(y3:List iII)=>dM Sy.str (List.map Sy.str.enc s1.1) λy4 =>
   bB (List iII×Int×PUnit) (λX5 s6=>aC (decide (s6.2.1<(↑(List.map Sy.str.enc y3).length:Int))) (aR Sy.str (List.map Sy.str.enc y3) s6.2.1 λy7=>aJ [(false,Sy.str.li)] (tV [T.sl false (List.map Sy.str.enc s6.1),pPQ y7]) λ(y8:List iII)=>dM Sy.str (List.map Sy.str.enc y8) λy9=>X5 (y9,i64.wrap (s6.2.1+1),()))
    (dM Sy.str (List.map Sy.str.enc s6.1) λy10=>X0 (y10,i64.wrap (s1.2.1+1),()))) (y4,0,()))
   (R (T.sl false (List.map Sy.str.enc s1.1)))) ([],0,()):=by
 have dk:∀ {l:List iII} {K:List iII->Prop},K l->dM Sy.str (List.map Sy.str.enc l) K:=λh=>by rw[dH (r:=.str) rfl];exact h
 refine bK l.length (λk s=>s=(vY [] (l.take k),(k:Int),())/\(vY [] (l.take k)).length<=k*M) ⟨rfl,Nat.zero_le _⟩ ?_;rintro X k s hk ⟨rfl,hz⟩ hX;dsimp only;rw[ae];refine cA (λhlt=>?_) λhge=>?_
 ·have hlt:k<l.length:=by omega
  rw[bD (r:=aN) hlt];have hn:=hok _ (ak hlt);refine aF (s:=[(false,Sy.str.li)]) (y:=lA (cR l[k])) ((NT ..).trans (by unfold nD;rw[hn,AJI];rfl)) (dk ?_);have hB:=hN _ (ak hlt);have eF:vY [] (l.take (k+1))=(lA (cR l[k])).foldl dC (vY [] (l.take k)):=by
   unfold vY;rw[List.take_succ_eq_append_getElem hlt,List.foldl_append];rfl
  generalize lA (cR l[k])=B at hB eF ⊢;generalize vY [] (l.take k)=O at hz eF ⊢;have hkM:k*M<=100*3000000:=Nat.mul_le_mul (by omega) hM;refine bK B.length (λj q=>q=((B.take j).foldl dC O,(j:Int),())) rfl ?_;rintro Y j q hj rfl hY;dsimp only;rw[ae];have hO:=B2 (B.take j) O;rw[List.length_take] at hO;refine cA (λhlt2=>?_) λhge2=>?_
  ·have hlt2:j<B.length:=by omega
   rw[bD (r:=.str) hlt2];refine aF (s:=[(false,Sy.str.li)]) (y:=dC ((B.take j).foldl dC O) B[j]) ((ABE ..).trans (by unfold uK;dsimp only;rw[ai (by omega)];rfl)) (dk ?_);refine hY _ hlt2 ?_;rw[List.take_succ_eq_append_getElem hlt2,List.foldl_append,show i64.wrap ((j:Int)+1)=((j+1:Nat):Int) from bG _ (by omega) (by omega)];rfl
  ·have:j=B.length:=by omega
   subst this;rw[List.take_length];refine dk (hX _ hlt ⟨?_,?_⟩)
   ·rw[eF,show i64.wrap ((k:Int)+1)=((k+1:Nat):Int) from bG _ (by omega) (by omega)]
   ·have:=B2 B O;rw[eF,Nat.succ_mul];omega
 ·have:k=l.length:=by omega
  subst this;rw[List.take_length];exact hR
def AX4:aP Tryz.prog 19 DO:=A08 λo r h hb=>by
 clear hb;obtain ⟨hc,rfl⟩:=zK h;clear h;obtain ⟨hl,hok⟩:=A8C hc;unfold UC BM7 BNA BND BMN BMT BMD;exact AJH (M:=2000010) (l:=o.2) (R:=λy=>y=T.sl false (List.map Sy.str.enc (FH o.2))) (by omega) hl (λe he=>Nat.le_trans (AQF _) (AHJ (hok e he))) hok (by rw[AO9])
noncomputable def A3G:Env:=Env.of []
def A4Y:FuncId->Hint:=b6 24 [(4,.inv [.val 5 false (.int .i64)]),(10,.inv [.val 7 false (.int .i64)])] (λ_=>bA)
def AMK:aV Tryz.prog A3G:=.nil _
def BMF:T:=pPR false
def BMJ:T:=pPR true
def BNR(y2:aX):List (List T):=List.map aA.li.enc y2.2.2.2.2.1.2.2.2.2.2.2.1.2
def TZ(a0:cZ)(a1:Int)(R:T->Prop):Prop:=aC (decide (100<(↑(ByteArray.size a0.1):Int))) (R BMF) (aC (decide (a1<(↑(BM7 a0).length:Int))) (R BMF) (bB (Int×PUnit) (λX0 s1=>aC (decide (s1.1<(↑(BM7 a0).length:Int))) (aR aN (BM7 a0) s1.1 λ(y2:aX)=>aC (decide (40<(↑(BMY y2).length:Int))) (R BMF) (aC (decide (40<(↑(BMU y2).length:Int))) (R BMF) (aC (decide (100 < (↑(List.map aA.enc y2.2.2.2.2.1.2.2.2.2.2.2.1.1).length : Int))) (R BMF) (aC (decide (20 < (↑(BNR y2).length : Int))) (R BMF) (bB (Int×PUnit) (λX3 s4=>aC (decide (s4.1 < (↑(BNR y2).length : Int))) (aR aA.li (BNR y2) s4.1 λ(y5:List aU)=>aC (decide (100<(↑(List.map aA.enc y5).length:Int))) (R BMF) (BMW X3 s4)) (BMW X0 s1)) (0,())))))) (R BMJ)) (0,())))
abbrev WB:Sh:=[(true,dF),(false,(Sy.int IntKind.i64))]
def M0 (x:aX):Bool:=decide ((x.2.2.2.2.2.2.1.2.2.1.length:Int)<=40)&&(decide ((x.2.2.2.2.2.2.1.2.2.2.2.length:Int)<=40)&&(decide ((x.2.2.2.2.1.2.2.2.2.2.2.1.1.length:Int)<=100)&&(decide ((x.2.2.2.2.1.2.2.2.2.2.2.1.2.length:Int)<=20)&&x.2.2.2.2.1.2.2.2.2.2.2.1.2.all λh=>decide ((h.length:Int)<=100))))
def tE (o:cZ) (n:Int):Bool:=decide ((o.1.size:Int)<=100)&&(decide ((o.2.length:Int)<=n)&&o.2.all M0)
def E2 (x:cZ×Int):Option T:=match decide (x.2<=1000) with
 | true=>some (Sh.enc kO (tE x.1 x.2))
 | false=>none
noncomputable def DI:List T->Option T:=gS WB E2
def AGN {a0 a1}:DI [aG true dF a0,pPP a1]=E2 (a0,a1):=bI (s:=WB) rfl (a0,a1) rfl
def A0V:rJ Tryz.prog 24 DI E2 (cC WB) TZ:=gZ (a1:=(true,dF)) (a2:=(false,(Sy.int IntKind.i64))) (sp:=E2) (F:=TZ) (Hs:=A4Y) (f:=24) (k:=8) AMK aY a7 (aO rfl) ⟨_,_,Tryz.func24,rfl⟩ rfl λ_ _ _=>by kernel_rfl
def AXU:aP Tryz.prog 24 DI:=A0V λo n r h hb=>by
 clear hb;obtain ⟨hn,rfl⟩:=zK h;clear h;have hn:n<=1000:=of_decide_eq_true hn;have no:tE o n=false->pPR false=Sh.enc kO (tE o n):=λh=>by rw[h];rfl
 unfold TZ BNR BM7 BMY BMU BMW BMJ BMF;simp only[ae];refine jR (λh=>no (by unfold tE;rw[aj h];rfl)) λg1=>?_;refine jR (λh=>no (by unfold tE;rw[aj h,Bool.false_and,Bool.and_false])) λg2=>?_;refine bK o.2.length (λk s=>s=((k:Int),())/\tE o n=(o.2.drop k).all M0) ⟨rfl,by unfold tE;rw[ai g1,ai g2];rfl⟩ ?_;rintro X k s hk ⟨rfl,he⟩ hX;dsimp only;refine cA (λhlt=>?_) λhge=>?_
 ·have hlt:k<o.2.length:=by omega
  rw[L1 hlt] at he;rw[bD (r:=aN) hlt];generalize o.2[k]=x at he ⊢;unfold M0 at he;refine jR (λh=>no (by rw[he,aj h];rfl)) λk1=>?_;rw[ai k1,Bool.true_and] at he;refine jR (λh=>no (by rw[he,aj h];rfl)) λk2=>?_;rw[ai k2,Bool.true_and] at he;refine jR (λh=>no (by rw[he,aj h];rfl)) λk3=>?_;rw[ai k3,Bool.true_and] at he;refine jR (λh=>no (by rw[he,aj h];rfl)) λk4=>?_;rw[ai k4,Bool.true_and] at he;generalize x.2.2.2.2.1.2.2.2.2.2.2.1.2=H at k4 he ⊢;refine bK H.length (λj q=>q=((j:Int),())/\tE o n=((H.drop j).all (λh=>decide ((h.length:Int)<=100))&&(o.2.drop (k+1)).all M0)) ⟨rfl,by rw[List.drop_zero];exact he⟩ ?_;rintro Y j q hj ⟨rfl,hq⟩ hY;dsimp only;refine cA (λhlt2=>?_) λhge2=>?_
  ·have hlt2:j<H.length:=by omega
   rw[L1 hlt2] at hq;rw[bD (r:=.li aA) hlt2];refine jR (λh=>no (by rw[hq,aj h];rfl)) λk5=>?_;rw[ai k5,Bool.true_and] at hq;exact hY _ hlt2 ⟨by rw[show i64.wrap ((j:Int)+1)=((j+1:Nat):Int) from bG _ (by omega) (by omega)],hq⟩
  ·rw[List.drop_eq_nil_of_le (by omega),List.all_nil,Bool.true_and] at hq;exact hX _ hlt ⟨by rw[show i64.wrap ((k:Int)+1)=((k+1:Nat):Int) from bG _ (by omega) (by omega)],hq⟩
 ·rw[he,List.drop_eq_nil_of_le (by omega)];rfl
def AXR {o:cZ} {n:Int} (hn:n<=100) (h:tE o n=true):A1D o=true:=by
 unfold tE at h;rw[ac,ac,ah,ah] at h;obtain ⟨_,h2,h3⟩:=h;unfold A1D;rw[ac];refine ⟨ai (by omega),List.all_eq_true.2 λx hx=>?_⟩;have hx:=List.all_eq_true.1 h3 x hx;unfold M0 at hx;rw[ac,ac,ah,ah] at hx;unfold VY;rw[ac];exact ⟨ai (by omega),ai (by omega)⟩
end Go.Pv
namespace Go.Pv
open Go Go.Proofs IntKind
def A2U:Value->Value->Bool
 | .int k a,.int j b=>decide (k=j)&&decide (a=b)
 | .string a,.string b=>decide (a=b)
 | .bool a,.bool b=>a == b
 | .slice none a b,.slice none c d=>a == c&&b == d
 | _,_=>false
def AFE {α:Type} (f:α->α->Bool):List α->List α->Bool
 | [],[]=>true
 | a::l,b::m=>f a b&&AFE f l m
 | _,_=>false
def TA:Nat->T->T->Bool
 | n+1,.v a,.v b=>A2U a b
 | n+1,.agg l,.agg m=>AFE (TA n) l m
 | n+1,.sl f l,.sl g m=>(f == g)&&AFE (AFE (TA n)) l m
 | _,_,_=>false
def DE:List (List T×T)->List T->Option T
 | [],_=>none
 | (A,r)::l,args=>match AFE (TA 20) args A with
  | true=>some r
  | false=>DE l args
def A2V {a b:Value} (h:A2U a b=true):a=b:=by
 unfold A2U at h;split at h
 ·simp only[ac,ah] at h;rw[h.1,h.2]
 ·rw[of_decide_eq_true h]
 ·rw[eq_of_beq h]
 ·simp only[ac,beq_iff_eq] at h;rw[h.1,h.2]
 ·cases h
def CX {α:Type} {f:α->α->Bool} (hf:∀ a b,f a b=true->a=b):∀ l m,AFE f l m=true->l=m
 | [],[],_=>rfl
 | [],_::_,h=>by cases h
 | _::_,[],h=>by cases h
 | a::l,b::m,h=>by
  simp only[AFE,ac] at h;rw[hf a b h.1,CX hf l m h.2]
def PG:∀ (n:Nat) (a b:T),TA n a b=true->a=b
 | 0,_,_,h=>by simp[TA] at h
 | n+1,a,b,h=>by
  unfold TA at h;split at h
  ·rename_i e;rw[A2V h]
  ·rename_i e;cases e;rw[CX (PG n) _ _ h]
  ·rename_i e;cases e;simp only[ac,beq_iff_eq] at h;rw[h.1,CX (CX (PG n)) _ _ h.2]
  ·cases h
def yY:∀ {l:List (List T×T)} {args:List T} {r:T},DE l args=some r->(args,r)∈l
 | [],_,_,h=>by cases h
 | (A,q)::l,args,r,h=>by
  unfold DE at h;split at h
  ·rename_i e;cases h;rw[CX (PG 20) _ _ e];exact am
  ·exact List.mem_cons_of_mem _ (yY h)
variable {P:Program}{g:List T->Option T}
def GF {f:FuncId} (hg:aP P f g) {l:List (List T×T)} (h:∀ x∈l,g x.1=some x.2):aP P f (DE l):=⟨hg.entry,λw own args vs r hG ho ha hr=>hg.calls w own args vs r hG ho ha (h _ (yY hr))⟩
end Go.Pv
namespace Go.Pv
open Go Go.Proofs IntKind
def ZT:fE Tryz.prog 318 (pV 1 8):=j7 aY a7 ⟨_,_,Tryz.func318,rfl⟩ ⟨λR=>by kernel_rfl,λfl R=>by kernel_rfl,λfl a rows R=>by kernel_rfl⟩
def RB:fE Tryz.prog 103 (pV 3 40):=j7 aY a7 ⟨_,_,Tryz.func103,rfl⟩ ⟨λR=>by kernel_rfl,λfl R=>by kernel_rfl,λfl a rows R=>by kernel_rfl⟩
def RE:fE Tryz.prog 104 (pV 6 72):=j7 aY a7 ⟨_,_,Tryz.func104,rfl⟩ ⟨λR=>by kernel_rfl,λfl R=>by kernel_rfl,λfl a rows R=>by kernel_rfl⟩
def RA:fE Tryz.prog 105 (pV 3 40):=j7 aY a7 ⟨_,_,Tryz.func105,rfl⟩ ⟨λR=>by kernel_rfl,λfl R=>by kernel_rfl,λfl a rows R=>by kernel_rfl⟩
def AJ6:fE Tryz.prog 136 (pV 2 16):=j7 aY a7 ⟨_,_,Tryz.func136,rfl⟩ ⟨λR=>by kernel_rfl,λfl R=>by kernel_rfl,λfl a rows R=>by kernel_rfl⟩
def ZU:fE Tryz.prog 137 (pV 1 24):=j7 aY a7 ⟨_,_,Tryz.func137,rfl⟩ ⟨λR=>by kernel_rfl,λfl R=>by kernel_rfl,λfl a rows R=>by kernel_rfl⟩
def RD:fE Tryz.prog 106 (pV 18 208):=j7 aY a7 ⟨_,_,Tryz.func106,rfl⟩ ⟨λR=>by kernel_rfl,λfl R=>by kernel_rfl,λfl a rows R=>by kernel_rfl⟩
def RC:fE Tryz.prog 107 (pV 5 88):=j7 aY a7 ⟨_,_,Tryz.func107,rfl⟩ ⟨λR=>by kernel_rfl,λfl R=>by kernel_rfl,λfl a rows R=>by kernel_rfl⟩
def ZV:fE Tryz.prog 243 (pV 1 16):=j7 aY a7 ⟨_,_,Tryz.func243,rfl⟩ ⟨λR=>by kernel_rfl,λfl R=>by kernel_rfl,λfl a rows R=>by kernel_rfl⟩
def AKG:FuncId->Bool:=λf=>[260,86,128,69,184,191,150].contains f
noncomputable def AZ1:Env:=Env.of [(83,.pure sF),(318,.fresh (pV 1 8)),(103,.fresh (pV 3 40)),(104,.fresh (pV 6 72)),(105,.fresh (pV 3 40)),(136,.fresh (pV 2 16)),(137,.fresh (pV 1 24)),(106,.fresh (pV 18 208)),(107,.fresh (pV 5 88)),(243,.fresh (pV 1 16)),(280,.grow 3 kD),(5000000000+38,.mark)]
def AP1:aV Tryz.prog AZ1:=aV.cons (x:=.pure sF) w9 (aV.cons (x:=.fresh (pV 1 8)) ZT (aV.cons (x:=.fresh (pV 3 40)) RB (aV.cons (x:=.fresh (pV 6 72)) RE (aV.cons (x:=.fresh (pV 3 40)) RA (aV.cons (x:=.fresh (pV 2 16)) AJ6 (aV.cons (x:=.fresh (pV 1 24)) ZU (aV.cons (x:=.fresh (pV 18 208)) RD (aV.cons (x:=.fresh (pV 5 88)) RC (aV.cons (x:=.fresh (pV 1 16)) ZV (aV.cons (x:=.grow 3 kD) B0 (aV.cons (x:=.mark) trivial (aV.nil _))))))))))))
noncomputable def gEd:List T->Option T:=OR Tryz.prog 400 AKG AZ1 40 66
def BBZ:aP Tryz.prog 66 gEd:=lY aY a7 400 AKG AP1 40 (nZ (k:=39) (fn:=_) (c:=_) (by kernel_rfl) Tryz.func66 rfl (by kernel_rfl))
def i0:T:=.v (.int .i64 0)
def s0:T:=.v (.string ⟨#[]⟩)
def n0:T:=.v (.slice none 0 0)
def l0:T:=.sl false []
def BHG:List T:=[T.agg [pPQ (⟨#[72,49]⟩),T.sl false [[pPQ (⟨#[65,49]⟩),pPP 2,pPQ (⟨#[66,49]⟩)],[pPQ (⟨#[66,49]⟩),pPP 1,s0]],T.sl false [[pPQ (⟨#[80,49]⟩),pPP 1,pPP 4,pPQ (⟨#[65,49]⟩),s0,i0,n0,n0,s0,i0,pPP 5,i0,i0,i0,i0,i0,i0,i0]],l0,l0,l0],T.agg [n0,n0],T.agg [pPP 1,s0,s0,pPQ (⟨#[65,50]⟩),pPP 2,pPQ (⟨#[66,49]⟩),s0,i0,i0,s0,s0,i0,n0,n0,s0,i0,i0,i0,i0,i0,i0,i0,i0,i0,s0,s0,s0,i0,i0,i0,s0,s0,n0,i0,n0,i0,s0,s0]]
def BHJ:T:=T.b7 [T.agg [pPQ (⟨#[72,49]⟩),T.sl false [[pPQ (⟨#[65,49]⟩),pPP 2,pPQ (⟨#[66,49]⟩)],[pPQ (⟨#[65,50]⟩),pPP 2,pPQ (⟨#[66,49]⟩)],[pPQ (⟨#[66,49]⟩),pPP 1,s0]],T.sl false [[pPQ (⟨#[80,49]⟩),pPP 1,pPP 4,pPQ (⟨#[65,49]⟩),s0,i0,l0,l0,s0,i0,pPP 5,i0,i0,i0,i0,i0,i0,i0]],l0,l0,l0],i0]
def BI7:gEd BHG=some BHJ:=by kernel_rfl
def BHH:List T:=[T.agg [pPQ (⟨#[72,49]⟩),T.sl false [[pPQ (⟨#[65,49]⟩),pPP 2,pPQ (⟨#[66,49]⟩)],[pPQ (⟨#[65,50]⟩),pPP 2,pPQ (⟨#[66,49]⟩)],[pPQ (⟨#[66,49]⟩),pPP 1,s0]],T.sl false [[pPQ (⟨#[80,49]⟩),pPP 1,pPP 4,pPQ (⟨#[65,49]⟩),s0,i0,l0,l0,s0,i0,pPP 5,i0,i0,i0,i0,i0,i0,i0]],l0,l0,l0],T.agg [n0,n0],T.agg [pPP 6,pPQ (⟨#[80,49]⟩),pPQ (⟨#[65,50]⟩),s0,i0,s0,s0,i0,i0,s0,s0,i0,n0,n0,s0,i0,i0,i0,i0,i0,i0,i0,i0,i0,s0,s0,s0,i0,i0,i0,s0,s0,n0,i0,n0,i0,s0,s0]]
def BHK:T:=T.b7 [T.agg [pPQ (⟨#[72,49]⟩),T.sl false [[pPQ (⟨#[65,49]⟩),pPP 2,pPQ (⟨#[66,49]⟩)],[pPQ (⟨#[65,50]⟩),pPP 2,pPQ (⟨#[66,49]⟩)],[pPQ (⟨#[66,49]⟩),pPP 1,s0]],T.sl false [[pPQ (⟨#[80,49]⟩),pPP 1,pPP 4,pPQ (⟨#[65,50]⟩),s0,i0,l0,l0,s0,i0,pPP 5,i0,i0,i0,i0,i0,i0,i0]],l0,l0,l0],i0]
def BI8:gEd BHH=some BHK:=by kernel_rfl
def BHI:List T:=[T.agg [pPQ (⟨#[72,49]⟩),T.sl false [[pPQ (⟨#[65,49]⟩),pPP 2,pPQ (⟨#[66,49]⟩)],[pPQ (⟨#[65,50]⟩),pPP 2,pPQ (⟨#[66,49]⟩)],[pPQ (⟨#[66,49]⟩),pPP 1,s0]],T.sl false [[pPQ (⟨#[80,49]⟩),pPP 1,pPP 4,pPQ (⟨#[65,49]⟩),s0,i0,l0,l0,s0,i0,pPP 5,i0,i0,i0,i0,i0,i0,i0]],l0,l0,l0],T.agg [n0,n0],T.agg [pPP 4,pPQ (⟨#[80,57]⟩),s0,s0,i0,s0,s0,i0,i0,s0,s0,i0,n0,n0,s0,i0,i0,i0,i0,i0,i0,i0,i0,i0,s0,s0,s0,i0,i0,i0,s0,s0,n0,i0,n0,i0,s0,s0]]
def BHL:T:=T.b7 [T.agg [s0,l0,l0,l0,l0,l0],pPP 8]
def BI9:gEd BHI=some BHL:=by kernel_rfl
def Q7:List (List T×T):=[(BHG,BHJ),(BHH,BHK),(BHI,BHL)]
def AJ8:aP Tryz.prog 66 (DE Q7):=GF BBZ λx hx=>by
 simp only[Q7,List.mem_cons,List.not_mem_nil,or_false] at hx;rcases hx with rfl|rfl|rfl
 ·exact BI7
 ·exact BI8
 ·exact BI9
end Go.Pv
namespace Go.Pv
open Go Go.Proofs Go.RowKit Go.Shelf IntKind
def BE0:Ren:=⟨λ|166=>35|240=>59|276=>79|169=>39|n=>n,λ|0=>0|3=>3|4=>4|5=>5|9=>9|20=>20|37=>92|70=>91|72=>94|75=>96|80=>101|127=>129|164=>147|n=>n,λ|n=>n⟩
def BH4:Lays.n166 Tryz.prog BE0:={
 mixed:=aY
 f166:=Tryz.func35.trans (congrArg some (by kernel_rfl))
 f240:=Tryz.func59.trans (congrArg some (by kernel_rfl))
 f276:=Tryz.func79.trans (congrArg some (by kernel_rfl))
 t0:=by kernel_rfl
 a0:=λ_=>by kernel_rfl
 z0:=λ_=>by kernel_rfl
 v0:=λ_=>by kernel_rfl
 t3:=by kernel_rfl
 a3:=λ_=>by kernel_rfl
 z3:=λ_=>by kernel_rfl
 v3:=λ_=>by kernel_rfl
 t4:=by kernel_rfl
 a4:=λ_=>by kernel_rfl
 z4:=λ_=>by kernel_rfl
 v4:=λ_=>by kernel_rfl
 t9:=by kernel_rfl
 a9:=λ_=>by kernel_rfl
 z9:=λ_=>by kernel_rfl
 v9:=λ_=>by kernel_rfl
 t20:=by kernel_rfl
 a20:=λ_=>by kernel_rfl
 z20:=λ_=>by kernel_rfl
 v20:=λ_=>by kernel_rfl
 t37:=by kernel_rfl
 a37:=λ_=>by kernel_rfl
 z37:=λ_=>by kernel_rfl
 v37:=λ_=>by kernel_rfl
 t70:=by kernel_rfl
 a70:=λ_=>by kernel_rfl
 z70:=λ_=>by kernel_rfl
 v70:=λ_=>by kernel_rfl
 t72:=by kernel_rfl
 a72:=λ_=>by kernel_rfl
 z72:=λ_=>by kernel_rfl
 v72:=λ_=>by kernel_rfl
 t75:=by kernel_rfl
 a75:=λ_=>by kernel_rfl
 z75:=λ_=>by kernel_rfl
 v75:=λ_=>by kernel_rfl
 t164:=by kernel_rfl
 a164:=λ_=>by kernel_rfl
 z164:=λ_=>by kernel_rfl
 v164:=λ_=>by kernel_rfl }
def BH3:Lays.n169 Tryz.prog BE0:={
 mixed:=aY
 f169:=Tryz.func39.trans (congrArg some (by kernel_rfl))
 t0:=by kernel_rfl
 a0:=λ_=>by kernel_rfl
 z0:=λ_=>by kernel_rfl
 v0:=λ_=>by kernel_rfl
 t3:=by kernel_rfl
 a3:=λ_=>by kernel_rfl
 z3:=λ_=>by kernel_rfl
 v3:=λ_=>by kernel_rfl
 t9:=by kernel_rfl
 a9:=λ_=>by kernel_rfl
 z9:=λ_=>by kernel_rfl
 v9:=λ_=>by kernel_rfl
 t37:=by kernel_rfl
 a37:=λ_=>by kernel_rfl
 z37:=λ_=>by kernel_rfl
 v37:=λ_=>by kernel_rfl
 t70:=by kernel_rfl
 a70:=λ_=>by kernel_rfl
 z70:=λ_=>by kernel_rfl
 v70:=λ_=>by kernel_rfl
 t72:=by kernel_rfl
 a72:=λ_=>by kernel_rfl
 z72:=λ_=>by kernel_rfl
 v72:=λ_=>by kernel_rfl
 t127:=by kernel_rfl
 a127:=λ_=>by kernel_rfl
 z127:=λ_=>by kernel_rfl
 v127:=λ_=>by kernel_rfl }
def AXP:Builder.Extra Tryz.prog BE0 where
 sizeBuilder:=by kernel_rfl
 liesBuilder:=by kernel_rfl
 t5:=by kernel_rfl
 a5:=λ_=>by kernel_rfl
 z5:=λ_=>by kernel_rfl
 v5:=λ_=>by kernel_rfl
 infoByte:=by kernel_rfl
 cellsByte:=by kernel_rfl
 sizeByte:=by kernel_rfl
 neB5:=by decide
def ANR (B b:Nat) (bs:List Value) (s:iII) (w:World) (h:Lib.IsBuilderF 94 5 B b bs w) (hlen:bs.length+s.size<=140737488355328) (hBw:B<=w.heap.size) :
  Calls Tryz.prog 35 #[.pointer (some ⟨b,0,none⟩),.string s] w λe w'=>e = .returned (.tuple #[.int .i64 s.size,.nilIface])/\(Lib.BuilderAtF 94 5 B b (.pointer (some ⟨b,0,none⟩)) (bs++Lib.strCells s) w'/\Below B w w') :=
 Any.Builder_WriteString_f BH4 AXP B b bs s w h hlen hBw
def AFN (B b:Nat) (l:List UInt8) (w:World) (h:Lib.IsBuilderF 94 5 B b (Lib.byteCells l) w) (hBw:B<=w.heap.size) :
  Calls Tryz.prog 39 #[.pointer (some ⟨b,0,none⟩)] w λe w'=>e = .returned (.string ⟨l.toArray⟩)/\(Lib.IsBuilderF 94 5 B b (Lib.byteCells l) w'/\Below B w w') :=
 Any.Builder_String_any_f BH3 AXP B b l w h hBw
end Go.Pv
namespace Go.Pv
open Go Go.Proofs Go.RowKit IntKind
variable {P:Program}{ops:Array Oper}{Q:Exit->Act->World->Prop}
def lZ {rest:List Nat} {a:Act} {w:World} {i:Nat} {o:Oper} (h:ops[i]? = some o) (hg:o.guard=none) (hh:o.wp P a w (wpOps P ops Q rest) Q):wpOps P ops Q (i::rest) a w:=by
 unfold wpOps;rw[h];have:Region.wanted o (yielded ops a.tmps)=true:=by unfold Region.wanted;rw[hg]
 simp only[this,if_true];exact .inl hh
def AK1 {o:Oper} {a:Act} {w:World} {next:Act->World->Prop} {f:FuncId} {c:Call} {vs:Array Value} (ho:o.op = .call c) (hc:c.callee=Callee.value (Operand.func f)) (hv:c.args.map a.eval=vs)
  (hent:∃ fn,P.funcs[f]? = some fn/\(fn.name == "runtime.NumGoroutine")=false/\fn.body.isNone=false) (h:Calls P f vs w (λe w'=>∃ v,e = .returned v/\next (a.put o.dst v) w')):o.wp P a w next Q:=by
 obtain ⟨fn,e1,e2,e3⟩:=hent
 have e2':¬ fn.name = "runtime.NumGoroutine" := by simpa using e2
 have e3':¬ fn.body=none:=by intro h;simp[h] at e3
 have he:(execOp a.eval o).run P w = .ok (.enter f vs) w:=by
  simp only[execOp,ho,resolve,hc];simp[Deferred.ofValue,invoke,callFunc,Act.eval,e1,e2',e3',hv]
 unfold Oper.wp;rw[he];refine h.mono ?_;rintro e w' ⟨v,rfl,h3⟩;exact h3
noncomputable def CK (rows:List (List T)) (k:Nat):Nat->D:=λt=>if t=16 then .p (.sl false rows) else if t=18 then .p (.v (.int .i64 (k:Int))) else .any
noncomputable def s1 (t:Nat) (d:D):Nat->D:=λi=>if i=t then d else .any
variable {ρ:Nat->Option Loc}
def A19 {w:World} {own:Nat->Prop} {t:Nat} {d:D} {a:Act} (h:Rd w own ρ d (a.tmps.getD t undef)):∀ x,Rd w own ρ (ev (s1 t d) x) (a.eval x):=λx=>by
 cases x with
 | tmp i =>
  show Rd w own ρ (if i=t then d else .any) (a.tmps.getD i undef);by_cases e:i=t
  ·subst e;rw[if_pos rfl];exact h
  ·rw[if_neg e];exact .any _
 | const v=>exact .p _ _ (.v v)
 | global g=>exact .p _ _ (.v _)
 | func f=>exact .p _ _ (.fn f [] [] #[] #[] rfl rfl (λi hi=>by simp at hi) (λi hi=>by simp at hi))
noncomputable def zE:List D:=match tz? Tryz.prog 68 with
 | some z=>z.cells.toList.map λv=>.p (.v v)
 | none=>[]
noncomputable def σA:Nat->Option bH:=bZ (λ_=>none) 0 (some (.rows false [zE]))
noncomputable def σB (x:aX):Nat->Option bH:=bZ σA 0 (some (.rows false [(aN.enc x).map .p]))
def BFF:((tz? Tryz.prog 68).bind λz=>(o9 (z.cells.toList.map λv=>.p (.v v))).map λb=>((.ptr 0 0 0:D),bZ (λ_=>none) 0 (some b)))=some (.ptr 0 0 0,σA):=by kernel_rfl
def BDE (x:aX):tY Tryz.prog (λ_=>none) 68 (.p (.ref (aN.enc x)))=some (.p (.agg (aN.enc x))):=by kernel_rfl
def A8R (x:aX):jP Tryz.prog σA 68 (.ptr 0 0 0) (.p (.agg (aN.enc x)))=some (σB x):=by kernel_rfl
def BDD (x:aX):tY Tryz.prog (σB x) 68 (.ptr 0 0 0)=some (.p (.agg (aN.enc x))):=by kernel_rfl
def A64 {rows:List (List T)} {k:Nat} {x:aX} (hrow:rows[k]? = some (aN.enc x)):cX Tryz.prog (λ_=>none) 23 (.p (.sl false rows)) (.p (.v (.int .i64 (k:Int))))=some (.p (.ref (aN.enc x))):=by
 have e1:l6 Tryz.prog 23=some 68:=by kernel_rfl
 have e2:tsz? Tryz.prog 68=some 38:=by kernel_rfl
 unfold cX;simp only[e1,e2,eZ,Int.toNat_natCast,hrow];rw[if_neg (by omega),if_pos (by rfl)]
def HF {a:Act} {i:Nat} {v:Value} (h:i<a.tmps.size):(a.put (some i) v).tmps.getD i undef=v:=by
 simp[Act.put,Array.getD_eq_getD_getElem?,h]
def AH2 {a:Act} {i j:Nat} {v:Value} (h:i≠j):(a.put (some i) v).tmps.getD j undef=a.tmps.getD j undef:=by
 simp[Act.put,Array.getD_eq_getD_getElem?,Array.getElem?_setIfInBounds,h]
def x7 {a:Act} {i:Nat} {v:Value}:(a.put (some i) v).tmps.size=a.tmps.size:=by simp[Act.put]
noncomputable def cxF (w:World):Cx:=ML Tryz.prog (λ_=>False) w
variable {o0 o1 o2:Oper}
def ALB {id:Nat} {o3:Oper} (hops:ops = #[o0,o1,o2,o3]) (g0:o0.guard=none) (g1:o1.guard=none) (g2:o2.guard=none) (g3:o3.guard=none)
  (p0:o0.op = .indexAddr 23 (.tmp 16) (.tmp 18)) (d0:o0.dst=some 20) (p1:o1.op = .load 68 (.tmp 20)) (d1:o1.dst=some 21) (p2:o2.op = .alloc 68) (d2:o2.dst=some 5) (p3:o3.op = .store 68 (.tmp 5) (.tmp 21)) (d3:o3.dst=none) {a:Act} {w:World} (hG:Good Tryz.prog w) (hsz:a.tmps.size=27) {rows:List (List T)} {x:aX} {k:Nat}
  (h16:cG w (λ_=>False) (.sl false rows) (a.tmps.getD 16 undef)) (h18:a.tmps.getD 18 undef = .int .i64 (k:Int)) (hrow:rows[k]? = some (aN.enc x))
  (hQ:∀ v20 v21 v5 w' ρ,Inv (cxF w) ρ (σB x) 2 w'->Good Tryz.prog w'->Rd w' (Own (cxF w) ρ (σB x)) ρ (.ptr 0 0 0) v5->Q .normal (((a.put (some 20) v20).put (some 21) v21).put (some 5) v5) w') :
  (Code.region id ops false).wp Tryz.prog Q a w:=by
 subst hops;refine wp_region ?_;show wpOps _ _ _ [0,1,2,3] _ _;have hI:Inv (cxF w) (λ_=>none) (λ_=>none) 0 w:=BC6 Tryz.prog (λ_=>False) w hG (λb h=>h.elim);have own0:∀ b,Own (cxF w) (λ_=>none) (λ_=>none) b->False:=λb hb=>by
  rcases hb with hb|⟨k,l,x,hk,_,_⟩
  ·exact hb
  ·cases hk
 refine lZ (o:=o0) rfl g0 ?_;have hs0:∀ y,Rd w (Own (cxF w) (λ_=>none) (λ_=>none)) (λ_=>none) (ev (CK rows k) y) (a.eval y):=λy=>by
  cases y with
  | tmp i =>
   show Rd _ _ _ (if i=16 then .p (.sl false rows) else if i=18 then .p (.v (.int .i64 (k:Int))) else .any) (a.tmps.getD i undef);by_cases e:i=16
   ·subst e;rw[if_pos rfl];exact .p _ _ (h16.less own0)
   ·rw[if_neg e];by_cases e2:i=18
    ·subst e2;rw[if_pos rfl,h18];exact .p _ _ (.v _)
    ·rw[if_neg e2];exact .any _
  | const v=>exact .p _ _ (.v v)
  | global g=>exact .p _ _ (.v _)
  | func f=>exact .p _ _ (.fn f [] [] #[] #[] rfl rfl (λi hi=>by simp at hi) (λi hi=>by simp at hi))
 refine ACL (cx:=cxF w) (E:=Env.of []) (aV.nil _) hI hG hs0 hs0 (d:=.p (.ref (aN.enc x))) (by rw[p0];exact A64 hrow) λv20 w1 b1 hv20=>?_;rw[d0];have hI1:=hI.grow b1 (al _);have hG1:=hG.below b1;refine lZ (o:=o1) rfl g1 ?_;have hs1:=A19 (t:=20) (a:=a.put (some 20) v20) (by rw[HF (by omega)];exact hv20);refine ACL (cx:=cxF w) (E:=Env.of []) (aV.nil _) hI1 hG1 hs1 hs1 (d:=.p (.agg (aN.enc x))) (by rw[p1];exact BDE x) λv21 w2 b2 hv21=>?_;rw[d1];have hI2:=hI1.grow b2 (al _);have hG2:=hG1.below b2;refine lZ (o:=o2) rfl g2 ?_;have hs2:=A19 (t:=21) (a:=(a.put (some 20) v20).put (some 21) v21) (by rw[HF (by rw[x7];omega)];exact hv21);refine AB8 (cx:=cxF w) (E:=Env.of []) (aV.nil _) hI2 hG2 hs2 (d:=.ptr 0 0 0) (σ':=σA) (n':=1) (by
  rw[p2];show one 0 ((tz? Tryz.prog 68).bind λz=>(o9 (z.cells.toList.map λv=>.p (.v v))).map λb=>((.ptr 0 0 0:D),bZ (λ_=>none) 0 (some b)))=_;rw[BFF];rfl) λv5 w3 ρ3 hI3 hk3 hv5=>?_
 rw[d2];have hG3:=hI2.oO hI3 hk3 hG2;refine lZ (o:=o3) rfl g3 ?_;have hv21':=hk3.rd hv21;have hs3:∀ y,Rd w3 (Own (cxF w) ρ3 σA) ρ3 (ev (λi=>if i=5 then .ptr 0 0 0 else if i=21 then .p (.agg (aN.enc x)) else .any) y) ((((a.put (some 20) v20).put (some 21) v21).put (some 5) v5).eval y):=λy=>by
  cases y with
  | tmp i =>
   show Rd _ _ _ (if i=5 then .ptr 0 0 0 else if i=21 then .p (.agg (aN.enc x)) else .any) ((((a.put (some 20) v20).put (some 21) v21).put (some 5) v5).tmps.getD i undef);by_cases e:i=5
   ·subst e;rw[if_pos rfl,HF (by rw[x7,x7];omega)];exact hv5
   ·rw[if_neg e];by_cases e2:i=21
    ·subst e2;rw[if_pos rfl,AH2 (by decide),HF (by rw[x7];omega)];exact hv21'
    ·rw[if_neg e2];exact .any _
  | const v=>exact .p _ _ (.v v)
  | global g=>exact .p _ _ (.v _)
  | func f=>exact .p _ _ (.fn f [] [] #[] #[] rfl rfl (λi hi=>by simp at hi) (λi hi=>by simp at hi))
 refine AB8 (cx:=cxF w) (E:=Env.of []) (aV.nil _) hI3 hG3 hs3 (d:=.p (.v undef)) (σ':=σB x) (n':=2) (by
  rw[p3];show one 1 ((jP Tryz.prog σA 68 (.ptr 0 0 0) (.p (.agg (aN.enc x)))).map λσ'=>((.p (.v undef):D),σ'))=_;rw[A8R];rfl) λv' w4 ρ4 hI4 hk4 _=>?_
 rw[d3];exact hQ v20 v21 v5 w4 ρ4 hI4 (hI3.oO hI4 hk4 hG3) (hk4.rd hv5)
variable {ge:List T->Option T}
def ALC {id:Nat} {c1 c2:Call} (hops:ops = #[o0,o1,o2]) (g0:o0.guard=none) (g1:o1.guard=none) (g2:o2.guard=none)
  (p0:o0.op = .load 68 (.tmp 5)) (d0:o0.dst=some 22) (p1:o1.op = .call c1) (q1:c1.callee=Callee.value (Operand.func 38)) (r1:c1.args = #[.tmp 22]) (d1:o1.dst=some 23)
  (p2:o2.op = .call c2) (q2:c2.callee=Callee.value (Operand.func 35)) (r2:c2.args = #[.tmp 3,.tmp 23]) (d2:o2.dst=some 24) {a:Act} {w w0:World} {x:aX} (hI:Inv (cxF w0) ρ (σB x) 2 w) (hG:Good Tryz.prog w) (hsz:a.tmps.size=27) (hv5:Rd w (Own (cxF w0) ρ (σB x)) ρ (.ptr 0 0 0) (a.tmps.getD 5 undef)) {eB:iII} (fe:aP Tryz.prog 38 ge) (hge:ge [aG true aN x]=some (.v (.string eB)))
  {ptr:Value} (h3:a.tmps.getD 3 undef=ptr)
  (hW:∀ v22 v23 w',Below w.heap.size w w'->Calls Tryz.prog 35 #[ptr,.string eB] w' λe w''=>∃ v,e = .returned v/\Q .normal (((a.put (some 22) v22).put (some 23) v23).put (some 24) v) w'') :
  (Code.region id ops false).wp Tryz.prog Q a w:=by
 subst hops;refine wp_region ?_;show wpOps _ _ _ [0,1,2] _ _;refine lZ (o:=o0) rfl g0 ?_;have hs0:=A19 (t:=5) (a:=a) hv5;refine ACL (cx:=cxF w0) (E:=Env.of []) (aV.nil _) hI hG hs0 hs0 (d:=.p (.agg (aN.enc x))) (by rw[p0];exact BDD x) λv22 w1 b1 hv22=>?_;rw[d0];have hI1:=hI.grow b1 (al _);have hG1:=hG.below b1;have hr:cG w1 (Own (cxF w0) ρ (σB x)) (T.agg (aN.enc x)) v22:=by
  cases hv22 with
  | p _ _ h=>exact h
 refine lZ (o:=o1) rfl g1 ?_;refine AK1 (vs:=#[v22]) p1 q1 (by rw[r1];simp only[List.map_toArray,List.map_cons,List.map_nil];exact congrArg (λv=>#[v]) (HF (by omega))) fe.entry ?_;refine (fe.calls w1 _ [aG true aN x] #[v22] (.v (.string eB)) hG1 (λb hb=>Own.lt hI1 hb) (cY.one hr) hge).mono ?_;rintro e w2 ⟨v23,rfl,hv23,b2⟩;cases hv23;refine ⟨_,rfl,?_⟩;rw[d1];refine lZ (o:=o2) rfl g2 ?_;refine AK1 (vs:=#[ptr,.string eB]) p2 q2 ?_ ⟨_,Tryz.func35,rfl,rfl⟩ ?_
 ·rw[r2];simp only[List.map_toArray,List.map_cons,List.map_nil];show #[((a.put (some 22) v22).put (some 23) (.string eB)).tmps.getD 3 undef,((a.put (some 22) v22).put (some 23) (.string eB)).tmps.getD 23 undef]=_;rw[AH2 (by decide),AH2 (by decide),h3,HF (by rw[x7];omega)]
 ·rw[d2];exact hW v22 _ w2 (b1.trans (b2.mono b1.size))
end Go.Pv
namespace Go.Pv
open Go Go.Proofs Go.RowKit IntKind
variable {ge:List T->Option T}
set_option maxHeartbeats 4000000 in
def AN7 (id:iII) (n cap:Nat) (w:World) (tx ls:iII) (M:Nat) (L:List aX) (hn:L.length=n) (hn9:n<=1000000000) (St:List UInt8->World->Prop) (P:Nat->List UInt8) (hz:tx.size+ls.size<=M) (hM:M<=1000000000)
  (hP0:P 0=(tx++ls).data.toList) (fe:aP Tryz.prog 38 ge) (eB:aX->iII) (hPs:∀ k (h:k<L.length),P (k+1)=P k++(eB L[k]).data.toList) (hPM:∀ k (h:k<L.length),(P k).length+(eB L[k]).size<=M) (hok:∀ k (h:k<L.length),ge [aG true aN L[k]]=some (.v (.string (eB L[k]))))
  (W2:World) (hW2:(w.alloc (.cells #[.string id,.slice none n cap] 25)).alloc (.cells #[.pointer none,.slice none 0 0] 94)=W2) (h2:St [] W2)
  (hd:∀ l W,St l W->St l W.drew) (hb:∀ l W W',St l W->Below W.heap.size W W'->St l W') (hG:∀ l W,St l W->Good Tryz.prog W)
  (hc0:∀ l W,St l W->W.cell? ⟨w.heap.size,0,none⟩=some (.string id))
  (hc:∀ l W,St l W->W.cell? ⟨w.heap.size,1,none⟩=some (.slice none n cap))
  (hR:∀ l W,St l W->cG W (λ_=>False) (.sl false (List.map aN.enc L)) (.slice none n cap))
  (hT:∀ W,St [] W->Calls Tryz.prog 36 #[.string id] W λe W'=>e = .returned (.string tx)/\St [] W')
  (hL:∀ W,St [] W->Calls Tryz.prog 37 #[.int .i64 (n:Int)] W λe W'=>e = .returned (.string ls)/\St [] W')
  (hW:∀ l s W,St l W->l.length+s.size<=M->Calls Tryz.prog 35 #[.pointer (some ⟨w.heap.size+1,0,none⟩),.string s] W λe W'=>e = .returned (.tuple #[.int .i64 s.size,.nilIface])/\St (l++s.data.toList) W')
  (hS:∀ l W,St l W->Calls Tryz.prog 39 #[.pointer (some ⟨w.heap.size+1,0,none⟩)] W λe W'=>e = .returned (.string ⟨l.toArray⟩)/\Below w.heap.size w W') :
  Calls Tryz.prog 12 #[.agg #[.string id,.slice none n cap]] w λe w'=>e = .returned (.string ⟨(P n).toArray⟩)/\Below w.heap.size w w':=by
 go_enter Tryz.func12,Tryz.ntmps12
 go_wp2_with fail
 go_cut [] from 6 to 14 (λwx=>St (tx++ls).data.toList wx)
 case first =>
  have k2:=hc _ _ h2;have k3:=hc0 _ _ h2
  go_region_with (first
   | (go_at_call 36;refine (hT _ ?_).mono ?_;(first|assumption|(apply hd;assumption)|(apply hd;apply hd;assumption));rintro e W3 ⟨rfl,h3⟩;have k4:=hc _ _ h3;have k5:=hc0 _ _ h3)
   | (go_at_call 37;refine (hL _ ?_).mono ?_;(first|assumption|(apply hd;assumption)|(apply hd;apply hd;assumption));rintro e W4 ⟨rfl,h4⟩;have k6:=hc _ _ h4;have k7:=hc0 _ _ h4)
   | (go_at_call 35;refine (hW [] _ _ ?_ ?_).mono ?_;(first|assumption|(apply hd;assumption)|(apply hd;apply hd;assumption));(rw[ByteArray.size_append];simpa using hz);rintro e W5 ⟨rfl,h5⟩))
  all_goals (go_wp2_with fail;go_meet;rw[List.nil_append] at h5;exact h5)
 case rest =>
  have k2:=hc _ _ hcut
  go_wp2_with fail
  go_loopg [18] n (λg s18 wx=>∃ k:Nat,s18 = .int .i64 (k:Int)/\k+g=n/\St (P k) wx)
  case atStart=>exact ⟨0,rfl,by omega,by rw[hP0];exact hcut⟩
  case round =>
   obtain ⟨k,rfl,hk,hs⟩:=hrel;cases gk with
   | zero =>
    obtain rfl:k=n:=by omega
    go_wp2_with (go_at_call 39;refine (hS _ _ hs).mono ?_;rintro e W6 ⟨rfl,h6⟩)
    go_ret
    exact ⟨rfl,h6⟩
   | succ g =>
    have hlt:k<n:=by omega
    have hlt':(k:Int)<(n:Int):=by omega
    have hkl:k<L.length:=by omega
    go_upto_region 5 with fail
    rename_i K7 hK7 K5 hK5;refine ALB rfl rfl rfl rfl rfl rfl rfl rfl rfl rfl rfl rfl rfl (x:=L[k]) (k:=k) (hG _ _ hs) rfl (hR _ _ hs) rfl (by rw[List.getElem?_map,List.getElem?_eq_getElem hkl];rfl) ?_;intro v20 v21 v5 w' ρ hI hG5 hv5;have hs5:=hb _ _ _ hs hI.below.toB;refine hK5 _ _ ?_;refine ALC rfl rfl rfl rfl rfl rfl rfl rfl rfl rfl rfl rfl rfl rfl (w0:=wr) (x:=L[k]) hI hG5 rfl hv5 fe (hok k hkl) rfl ?_;intro v22 v23 w'' hb6;refine (hW _ _ _ (hb _ _ _ hs5 hb6) (hPM k hkl)).mono ?_;rintro e w8 ⟨rfl,h8⟩;rw[<-hPs k hkl] at h8;refine ⟨_,rfl,?_⟩;refine hK7 _ _ ?_;simp only[Act.put]
    go_wp2_with fail
    go_roundg g
    case measure=>omega
    case rel=>exact ⟨k+1,rfl,by omega,h8⟩
set_option maxHeartbeats 4000000 in
def AN8 (id:iII) (ad:Addr)(n cap:Nat) (w:World) (tx ls:iII) (M:Nat) (L:List aX) (hn:L.length=n) (hn9:n<=1000000000) (St:List UInt8->World->Prop) (P:Nat->List UInt8) (hz:tx.size+ls.size<=M) (hM:M<=1000000000)
  (hP0:P 0=(tx++ls).data.toList) (fe:aP Tryz.prog 38 ge) (eB:aX->iII) (hPs:∀ k (h:k<L.length),P (k+1)=P k++(eB L[k]).data.toList) (hPM:∀ k (h:k<L.length),(P k).length+(eB L[k]).size<=M) (hok:∀ k (h:k<L.length),ge [aG true aN L[k]]=some (.v (.string (eB L[k]))))
  (W2:World) (hW2:(w.alloc (.cells #[.string id,.slice (some ad) n cap] 25)).alloc (.cells #[.pointer none,.slice none 0 0] 94)=W2) (h2:St [] W2)
  (hd:∀ l W,St l W->St l W.drew) (hb:∀ l W W',St l W->Below W.heap.size W W'->St l W') (hG:∀ l W,St l W->Good Tryz.prog W)
  (hc0:∀ l W,St l W->W.cell? ⟨w.heap.size,0,none⟩=some (.string id))
  (hc:∀ l W,St l W->W.cell? ⟨w.heap.size,1,none⟩=some (.slice (some ad) n cap))
  (hR:∀ l W,St l W->cG W (λ_=>False) (.sl false (List.map aN.enc L)) (.slice (some ad) n cap))
  (hT:∀ W,St [] W->Calls Tryz.prog 36 #[.string id] W λe W'=>e = .returned (.string tx)/\St [] W')
  (hL:∀ W,St [] W->Calls Tryz.prog 37 #[.int .i64 (n:Int)] W λe W'=>e = .returned (.string ls)/\St [] W')
  (hW:∀ l s W,St l W->l.length+s.size<=M->Calls Tryz.prog 35 #[.pointer (some ⟨w.heap.size+1,0,none⟩),.string s] W λe W'=>e = .returned (.tuple #[.int .i64 s.size,.nilIface])/\St (l++s.data.toList) W')
  (hS:∀ l W,St l W->Calls Tryz.prog 39 #[.pointer (some ⟨w.heap.size+1,0,none⟩)] W λe W'=>e = .returned (.string ⟨l.toArray⟩)/\Below w.heap.size w W') :
  Calls Tryz.prog 12 #[.agg #[.string id,.slice (some ad) n cap]] w λe w'=>e = .returned (.string ⟨(P n).toArray⟩)/\Below w.heap.size w w':=by
 go_enter Tryz.func12,Tryz.ntmps12
 go_wp2_with fail
 go_cut [] from 6 to 14 (λwx=>St (tx++ls).data.toList wx)
 case first =>
  have k2:=hc _ _ h2;have k3:=hc0 _ _ h2
  go_region_with (first
   | (go_at_call 36;refine (hT _ ?_).mono ?_;(first|assumption|(apply hd;assumption)|(apply hd;apply hd;assumption));rintro e W3 ⟨rfl,h3⟩;have k4:=hc _ _ h3;have k5:=hc0 _ _ h3)
   | (go_at_call 37;refine (hL _ ?_).mono ?_;(first|assumption|(apply hd;assumption)|(apply hd;apply hd;assumption));rintro e W4 ⟨rfl,h4⟩;have k6:=hc _ _ h4;have k7:=hc0 _ _ h4)
   | (go_at_call 35;refine (hW [] _ _ ?_ ?_).mono ?_;(first|assumption|(apply hd;assumption)|(apply hd;apply hd;assumption));(rw[ByteArray.size_append];simpa using hz);rintro e W5 ⟨rfl,h5⟩))
  all_goals (go_wp2_with fail;go_meet;rw[List.nil_append] at h5;exact h5)
 case rest =>
  have k2:=hc _ _ hcut
  go_wp2_with fail
  go_loopg [18] n (λg s18 wx=>∃ k:Nat,s18 = .int .i64 (k:Int)/\k+g=n/\St (P k) wx)
  case atStart=>exact ⟨0,rfl,by omega,by rw[hP0];exact hcut⟩
  case round =>
   obtain ⟨k,rfl,hk,hs⟩:=hrel;cases gk with
   | zero =>
    obtain rfl:k=n:=by omega
    go_wp2_with (go_at_call 39;refine (hS _ _ hs).mono ?_;rintro e W6 ⟨rfl,h6⟩)
    go_ret
    exact ⟨rfl,h6⟩
   | succ g =>
    have hlt:k<n:=by omega
    have hlt':(k:Int)<(n:Int):=by omega
    have hkl:k<L.length:=by omega
    go_upto_region 5 with fail
    rename_i K7 hK7 K5 hK5;refine ALB rfl rfl rfl rfl rfl rfl rfl rfl rfl rfl rfl rfl rfl (x:=L[k]) (k:=k) (hG _ _ hs) rfl (hR _ _ hs) rfl (by rw[List.getElem?_map,List.getElem?_eq_getElem hkl];rfl) ?_;intro v20 v21 v5 w' ρ hI hG5 hv5;have hs5:=hb _ _ _ hs hI.below.toB;refine hK5 _ _ ?_;refine ALC rfl rfl rfl rfl rfl rfl rfl rfl rfl rfl rfl rfl rfl rfl (w0:=wr) (x:=L[k]) hI hG5 rfl hv5 fe (hok k hkl) rfl ?_;intro v22 v23 w'' hb6;refine (hW _ _ _ (hb _ _ _ hs5 hb6) (hPM k hkl)).mono ?_;rintro e w8 ⟨rfl,h8⟩;rw[<-hPs k hkl] at h8;refine ⟨_,rfl,?_⟩;refine hK7 _ _ ?_;simp only[Act.put]
    go_wp2_with fail
    go_roundg g
    case measure=>omega
    case rel=>exact ⟨k+1,rfl,by omega,h8⟩
end Go.Pv
namespace Go.Pv
open Go Go.Proofs IntKind
section
variable {V c d : Int} {k v : Nat}
end
end Go.Pv
namespace Go.Pv
open Go Go.Proofs IntKind
end Go.Pv
namespace Go.Pv
open Go Go.Proofs IntKind
end Go.Pv
namespace Go.Pv
open Go Go.Proofs IntKind
def sV {α:Type} (f:α->iII):List α->iII
 | []=>⟨#[]⟩
 | a::l=>f a++sV f l
def zb (b:iII):(⟨#[]⟩:iII)++b=b:=by
 apply ByteArray.ext;simp[ByteArray.data_append]
def wT {α:Type} (f:α->iII):∀ (a b:List α),sV f (a++b)=sV f a++sV f b
 | [],b=>(zb _).symm
 | x::a,b=>by
  show f x++sV f (a++b)=f x++sV f a++sV f b;rw[wT f a b,ByteArray.append_assoc]
end Go.Pv
namespace Go.Pv
open Go Go.Proofs Go.RowKit IntKind
def HB (hd:iII) (eB:aX->iII) (l:List aX) (k:Nat):List UInt8:=(hd++sV eB (l.take k)).data.toList
variable {hd:iII}{eB:aX->iII}
def HC {l:List aX} {k:Nat} (h:k<l.length):HB hd eB l (k+1)=HB hd eB l k++(eB l[k]).data.toList:=by
 unfold HB;rw[List.take_succ_eq_append_getElem h,wT,<-ByteArray.append_assoc];show (_++(eB l[k]++sV eB [])).data.toList=_;rw[show eB l[k]++sV eB []=eB l[k] from ByteArray.append_empty];simp[ByteArray.data_append]
def A5V:∀ (l m:List aX),l <+: m->(sV eB l).size<=(sV eB m).size
 | l,_,⟨r,rfl⟩=>by rw[wT,ByteArray.size_append];omega
def A8K {l:List aX} (k:Nat):(HB hd eB l k).length<=(hd++sV eB l).size:=by
 have h:=A5V (eB:=eB) (l.take k) l (List.take_prefix ..);have e:(HB hd eB l k).length=(hd++sV eB (l.take k)).size:=rfl;rw[e,ByteArray.size_append,ByteArray.size_append];omega
variable {ge gt gl:List T->Option T}
set_option maxHeartbeats 400000 in
def AN6 (fe:aP Tryz.prog 38 ge) (ft:aP Tryz.prog 36 gt) (fl:aP Tryz.prog 37 gl) (eB:aX->iII) (tx ls:iII) (o:cZ)
  (gT:gt [.v (.string o.1)]=some (.v (.string tx))) (gL':gl [.v (.int .i64 (o.2.length:Int))]=some (.v (.string ls))) (hE:∀ x∈o.2,ge [aG true aN x]=some (.v (.string (eB x)))) (k4:((tx++ls)++sV eB o.2).size<=1000000000) (k2:o.2.length<=1000000000)
  (ad:Option Addr) (n cap:Nat) (hn:o.2.length=n) (w:World) (hG:Good Tryz.prog w) (hr:cG w (λ_=>False) (.sl false (List.map aN.enc o.2)) (.slice ad n cap)) :
  Calls Tryz.prog 12 #[.agg #[.string o.1,.slice ad n cap]] w λe w'=>e = .returned (.string ((tx++ls)++sV eB o.2))/\Below w.heap.size w w':=by
 have gL:gl [.v (.int .i64 (n:Int))]=some (.v (.string ls)):=by rw[<-hn];exact gL'
 have hn9:n<=1000000000:=by omega
 obtain ⟨M,hM⟩:∃ M:Nat,M=1000000000:=⟨_,rfl⟩
 have hM9:M<=1000000000:=Nat.le_of_eq hM;have s1:(w.alloc (.cells #[.string o.1,.slice ad n cap] 25)).heap.size=w.heap.size+1:=Array.size_push ..;have b1:Below w.heap.size w (w.alloc (.cells #[.string o.1,.slice ad n cap] 25)):=(Below.refl _ w).alloc (al _) _;obtain ⟨W2,hW2⟩:∃ W2,(w.alloc (.cells #[.string o.1,.slice ad n cap] 25)).alloc (.cells #[.pointer none,.slice none 0 0] 94)=W2:=⟨_,rfl⟩
 have s2:W2.heap.size=w.heap.size+2:=by rw[<-hW2];show (Array.push _ _).size=_;rw[Array.size_push,s1]
 have b2:Below w.heap.size w W2:=by rw[<-hW2];exact b1.alloc (by rw[s1];omega) _
 have c2:W2.heap[w.heap.size]? = some (.cells #[.string o.1,.slice ad n cap] 25):=by
  rw[<-hW2,Below.heap_alloc _ _ _ (by rw[s1];omega)];exact heap_alloc_new w _
 have h0:Lib.IsBuilderF 94 5 (w.heap.size+1) (w.heap.size+1) [] W2:=by
  have:=Lib.IsBuilderF.of (Lib.fresh_isBuilder 94 5 (w.alloc (.cells #[.string o.1,.slice ad n cap] 25)));rw[s1] at this;rw[<-hW2];exact this
 obtain ⟨St,hSt⟩:∃ St:List UInt8->World->Prop,St=λl W=>Below w.heap.size w W/\W.heap[w.heap.size]? = some (.cells #[.string o.1,.slice ad n cap] 25)/\Lib.IsBuilderF 94 5 (w.heap.size+1) (w.heap.size+1) (Lib.byteCells l) W/\w.heap.size+2<=W.heap.size:=⟨_,rfl⟩
 have hSt':∀ l W,St l W↔Below w.heap.size w W/\W.heap[w.heap.size]? = some (.cells #[.string o.1,.slice ad n cap] 25)/\Lib.IsBuilderF 94 5 (w.heap.size+1) (w.heap.size+1) (Lib.byteCells l) W/\w.heap.size+2<=W.heap.size:=λl W=>by rw[hSt]
 clear hSt;have hb:∀ l W W',St l W->Below W.heap.size W W'->St l W':=λl W W' h hb=>by
  obtain ⟨g1,g2,g3,g4⟩:=(hSt' l W).1 h;refine (hSt' l W').2 ⟨g1.trans (hb.mono (by omega)),?_,g3.below hb,Nat.le_trans g4 hb.size⟩;rw[hb.block _ (by omega)];exact g2
 have hGS:∀ l W,St l W->Good Tryz.prog W:=λl W h=>hG.below ((hSt' l W).1 h).1;have hcell:∀ l W,St l W->W.heap[w.heap.size]? = some (.cells #[.string o.1,.slice ad n cap] 25):=λl W h=>((hSt' l W).1 h).2.1;have hz:tx.size+ls.size<=M:=by
  rw[ByteArray.size_append,ByteArray.size_append] at k4;omega
 have fin:(⟨(HB (tx++ls) eB o.2 n).toArray⟩:iII)=(tx++ls)++sV eB o.2:=by
  unfold HB;rw[<-hn,List.take_length]
 rw[<-fin];have go:(∀ W,St [] W->Calls Tryz.prog 36 #[.string o.1] W λe W'=>e = .returned (.string tx)/\St [] W') ->
   (∀ W,St [] W->Calls Tryz.prog 37 #[.int .i64 (n:Int)] W λe W'=>e = .returned (.string ls)/\St [] W') ->
   (∀ l s W,St l W->l.length+s.size<=M->Calls Tryz.prog 35 #[.pointer (some ⟨w.heap.size+1,0,none⟩),.string s] W λe W'=>e = .returned (.tuple #[.int .i64 s.size,.nilIface])/\St (l++s.data.toList) W') ->
   (∀ l W,St l W->Calls Tryz.prog 39 #[.pointer (some ⟨w.heap.size+1,0,none⟩)] W λe W'=>e = .returned (.string ⟨l.toArray⟩)/\Below w.heap.size w W') ->
   Calls Tryz.prog 12 #[.agg #[.string o.1,.slice ad n cap]] w λe w'=>e = .returned (.string ⟨(HB (tx++ls) eB o.2 n).toArray⟩)/\Below w.heap.size w w':=λaT aL aW aS=>by
  have hP0:HB (tx++ls) eB o.2 0=(tx++ls).data.toList:=by
   unfold HB;rw[List.take_zero];exact congrArg (λb:iII=>b.data.toList) ByteArray.append_empty
  have hPM:∀ k (h:k<o.2.length),(HB (tx++ls) eB o.2 k).length+(eB o.2[k]).size<=M:=λk h=>by
   have h1:=A8K (hd:=tx++ls) (eB:=eB) (l:=o.2) (k+1);rw[HC h,List.length_append] at h1;have:(eB o.2[k]).data.toList.length=(eB o.2[k]).size:=rfl;omega
  have hd:∀ l W,St l W->St l W.drew:=λl W h=>hb l W _ h ((Below.refl _ W).drew);have c0:∀ l W,St l W->W.cell? ⟨w.heap.size,0,none⟩=some (.string o.1):=λl W h=>by simp[World.cell?,hcell l W h]
  have c1:∀ l W,St l W->W.cell? ⟨w.heap.size,1,none⟩=some (.slice ad n cap):=λl W h=>by simp[World.cell?,hcell l W h]
  have hR:∀ l W,St l W->cG W (λ_=>False) (.sl false (List.map aN.enc o.2)) (.slice ad n cap):=λl W h=>hr.grow ((hSt' l W).1 h).1;have h20:St [] W2:=(hSt' _ _).2 ⟨b2,c2,h0,by omega⟩;cases ad with
  | none=>exact AN7 o.1 n cap w tx ls M o.2 hn hn9 St (HB (tx++ls) eB o.2) hz hM9 hP0 fe eB (λk h=>HC h) hPM (λk h=>hE _ (ak h)) W2 hW2 h20 hd hb hGS c0 c1 hR aT aL aW aS
  | some ad=>exact AN8 o.1 ad n cap w tx ls M o.2 hn hn9 St (HB (tx++ls) eB o.2) hz hM9 hP0 fe eB (λk h=>HC h) hPM (λk h=>hE _ (ak h)) W2 hW2 h20 hd hb hGS c0 c1 hR aT aL aW aS
 refine go (λW h=>?_) (λW h=>?_) (λl s W h hs=>?_) λl W h=>?_
 ·refine (ft.calls W (λ_=>False) _ _ _ (hGS _ _ h) (λ_ h=>h.elim) (cY.one (.v _)) gT).mono ?_;rintro e W' ⟨v,rfl,h1,h2⟩;cases h1;exact ⟨rfl,hb _ _ _ h h2⟩
 ·refine (fl.calls W (λ_=>False) _ _ _ (hGS _ _ h) (λ_ h=>h.elim) (cY.one (.v _)) gL).mono ?_;rintro e W' ⟨v,rfl,h1,h2⟩;cases h1;exact ⟨rfl,hb _ _ _ h h2⟩
 ·obtain ⟨g1,g2,g3,g4⟩:=(hSt' l W).1 h;refine (ANR (w.heap.size+1) (w.heap.size+1) _ s W g3 (by rw[Lib.byteCells_length];omega) (by omega)).mono ?_;rintro e W' ⟨rfl,h1,h2⟩;refine ⟨rfl,(hSt' _ _).2 ⟨g1.trans (h2.mono (by omega)),by rw[h2.block _ (by omega)];exact g2,?_,Nat.le_trans g4 h2.size⟩⟩;rw[Lib.strCells_eq,<-Lib.byteCells_append] at h1;exact Or.inr h1
 ·obtain ⟨g1,g2,g3,g4⟩:=(hSt' l W).1 h;refine (AFN (w.heap.size+1) (w.heap.size+1) l W g3 (by omega)).mono ?_;rintro e W' ⟨rfl,_,h2⟩;exact ⟨rfl,g1.trans (h2.mono (by omega))⟩
variable {g:List T->Option T}
def A6J (fe:aP Tryz.prog 38 ge) (ft:aP Tryz.prog 36 gt) (fl:aP Tryz.prog 37 gl) (eB:aX->iII) (tx ls:iII) (o:cZ)
  (gT:gt [.v (.string o.1)]=some (.v (.string tx))) (gL:gl [.v (.int .i64 (o.2.length:Int))]=some (.v (.string ls))) (hE:∀ x∈o.2,ge [aG true aN x]=some (.v (.string (eB x)))) (k4:((tx++ls)++sV eB o.2).size<=1000000000) (k2:o.2.length<=1000000000) (hg:∀ args r,g args=some r->args=[aG true dF o]/\r = .v (.string ((tx++ls)++sV eB o.2))):aP Tryz.prog 12 g where
 entry:=⟨_,Tryz.func12,rfl,rfl⟩
 calls:=λw own args vs r hG ho ha hgr=>by
  obtain ⟨rfl,rfl⟩:=hg _ _ hgr;obtain ⟨hz,hv⟩:=ha;rcases vs with ⟨l⟩
  match l,hz,hv with
  | [v0],_,hv =>
   have h0:cG w own (T.agg [pPQ o.1,T.sl false (List.map aN.enc o.2)]) v0:=hv 0 Nat.zero_lt_one;cases h0 with
   | agg _ vc g1 g2 =>
    rcases vc with ⟨m⟩
    match m,g1,g2 with
    | [x0,x1],_,g2 =>
     have q0:cG w own (pPQ o.1) x0:=g2 0 (show 0<2 by decide);have q1:cG w own (T.sl false (List.map aN.enc o.2)) x1:=g2 1 (show 1<2 by decide);obtain ⟨ad,cap,rfl,_⟩:=q1.isSlice;cases q0;refine (AN6 fe ft fl eB tx ls o gT gL hE k4 k2 ad _ cap (by rw[ae]) w hG (q1.less λ_ h=>h.elim)).mono ?_;rintro e w' ⟨rfl,h2⟩;exact ⟨_,rfl,.v _,h2⟩
end Go.Pv
namespace Go.Pv
open Go Go.RowKit IntKind
section
variable {ag : Bool} {r : Sy}
def BBE {es:List (iII×r.den)} {seen:List Nat} {i:Nat} (hi:i<es.length) (K:iII->r.den->Prop) (hk:K es[i].1 es[i].2):BS .str ag r (List.map (b8 .str ag r) es) (seen++[i]) K :=
 ⟨i,es[i].1,es[i].2,by simp,by simp[hi],hk⟩
abbrev AWD:=List iII×(Nat×List Nat×Nat)×PUnit
end
end Go.Pv
namespace Go.Pv
open Go Go.Proofs IntKind
def A8M {ag:Bool} {r:Sy} {es:List (iII×r.den)} {E:List (Value×D)} (hE:E=List.map (b8 .str ag r) es) {o:List iII} (P:iII×r.den->Bool)
  {EXIT:AWD->Prop} {BODY:(AWD->Prop)->AWD->Nat->iII->r.den->Prop}
  (hbody:∀ (X:AWD->Prop) (out:List iII) (seen:List Nat) (i:Nat) (hi:i<es.length),out.length<=o.length+seen.length->seen.length<es.length ->
   (P es[i]=true->X (out++[es[i].1],(E.length,seen++[i],E.length),()))->(P es[i]=false->X (out,(E.length,seen++[i],E.length),()))->BODY X (out,(E.length,seen,E.length),()) i es[i].1 es[i].2)
  (hexit:∀ (o2:List iII) (seen:List Nat),(∀ s,s∈o2↔∃ e∈es,e.1=s/\P e=true)->o2.length<=es.length->((es.map λe=>e.1).Nodup->o2.Nodup)->EXIT (o++o2,(E.length,seen,E.length),())) :
  bB AWD (λX s=>bR (decide (E.length<=s.2.1.1)&&decide (s.2.1.1<=s.2.1.2.2)) (sZ E.length s.2.1.2.1 (EXIT s) λi=>bR (decide (E.length=E.length)) (BS .str ag r E (s.2.1.2.1++[i]) λk v=>BODY X s i k v))) (o,(E.length,[],E.length),()):=by
 have hn:E.length=es.length:=by rw[hE,ae]
 refine AP5 (λs=>∃ (seen:List Nat) (o2:List iII),s=(o++o2,(E.length,seen,E.length),())/\seen.Nodup/\(∀ i∈seen,i<es.length)/\(∀ s,s∈o2↔∃ i∈seen,∃ e,es[i]? = some e/\e.1=s/\P e=true)/\o2.length<=seen.length/\((es.map λe=>e.1).Nodup->o2.Nodup)/\seen.length+(cK E.length seen).length<=E.length) (λs=>(cK E.length s.2.1.2.1).length) ⟨[],[],by rw[List.append_nil],by simp,by simp,by simp,by simp,by simp,by rw[xY];simp⟩ ?_;rintro X s ⟨seen,o2,rfl,hnd,hlt,hm,hl,hon,hq⟩ hX;dsimp only;refine ⟨by simp,λhnil=>?_,λi hi=>⟨by simp,?_⟩⟩
 ·refine hexit o2 seen (λs=>?_) (by omega) hon;rw[hm];constructor
  ·rintro ⟨i,_,e,he,h1,h2⟩;exact ⟨e,List.mem_of_getElem? he,h1,h2⟩
  ·rintro ⟨e,he,h1,h2⟩;obtain ⟨i,hi,rfl⟩:=List.mem_iff_getElem.1 he;refine ⟨i,?_,_,List.getElem?_eq_getElem hi,h1,h2⟩;refine Classical.byContradiction λhc=>?_;have:i∈cK E.length seen:=mD.2 ⟨by omega,hc⟩;rw[hnil] at this;cases this
 ·have hi':=mD.1 hi;have hie:i<es.length:=by omega
  have hst:=vF hi;subst hE;have hnd2:(seen++[i]).Nodup:=by
   rw[List.nodup_append];exact ⟨hnd,by simp,λa ha b hb=>by simp at hb;subst hb;exact λe=>hi'.2 (e ▸ ha)⟩
  have hlt2:∀ j∈seen++[i],j<es.length:=λj hj=>by
   rcases List.mem_append.1 hj with h|h
   ·exact hlt j h
   ·simp at h;omega
  have hpos:=List.length_pos_of_mem hi;have hq2:(seen++[i]).length+(cK (List.map (b8 .str ag r) es).length (seen++[i])).length<=(List.map (b8 .str ag r) es).length:=by simp only[List.length_append,List.length_singleton];omega
  refine BBE hie _ (hbody X _ seen i hie (by rw[List.length_append];omega) (by omega) (λhP=>?_) λhP=>?_)
  ·refine hX _ ⟨seen++[i],o2++[es[i].1],by rw[List.append_assoc],hnd2,hlt2,λs=>?_,by simp;omega,?_,hq2⟩ hst
   case refine_2 =>
    intro hk;rw[List.nodup_append];refine ⟨hon hk,by simp,λx hx y hy e=>?_⟩;rw[List.mem_singleton.1 hy] at e;obtain ⟨j,hj,e',he',h1,_⟩:=(hm x).1 hx;obtain ⟨hjl,rfl⟩:=List.getElem?_eq_some_iff.1 he';have hne:j≠i:=λh=>hi'.2 (h ▸ hj);have h2:(es.map λe=>e.1)[j]'(by simpa using hjl)=(es.map λe=>e.1)[i]'(by simpa using hie):=by simp[h1,e]
    rcases Nat.lt_or_gt_of_ne hne with h|h
    ·exact List.pairwise_iff_getElem.1 hk _ _ _ _ h h2
    ·exact List.pairwise_iff_getElem.1 hk _ _ _ _ h h2.symm
   rw[List.mem_append,hm,List.mem_singleton];constructor
   ·rintro (⟨j,hj,h⟩|rfl)
    ·exact ⟨j,List.mem_append_left _ hj,h⟩
    ·exact ⟨i,by simp,_,List.getElem?_eq_getElem hie,rfl,hP⟩
   ·rintro ⟨j,hj,e,he,h1,h2⟩;rcases List.mem_append.1 hj with h|h
    ·exact .inl ⟨j,h,e,he,h1,h2⟩
    ·rw[List.mem_singleton.1 h,List.getElem?_eq_getElem hie] at he;cases he;exact .inr h1.symm
  ·refine hX _ ⟨seen++[i],o2,rfl,hnd2,hlt2,λs=>?_,by simp;omega,hon,hq2⟩ hst;rw[hm];constructor
   ·rintro ⟨j,hj,h⟩;exact ⟨j,List.mem_append_left _ hj,h⟩
   ·rintro ⟨j,hj,e,he,h1,h2⟩;rcases List.mem_append.1 hj with h|h
    ·exact ⟨j,h,e,he,h1,h2⟩
    ·rw[List.mem_singleton.1 h,List.getElem?_eq_getElem hie] at he;cases he;rw[hP] at h2;cases h2
def VL {α:Type} {k:iII} {v:α}:∀ {es:List (iII×α)},k∈es.map (λe=>e.1)->(nK es k v).map (λe=>e.1)=es.map (λe=>e.1)
 | [],h=>by cases h
 | e::es,h=>by
  unfold nK;by_cases h1:e.1=k
  ·simp[h1]
  ·rw[if_neg h1,List.map_cons,VL ((List.mem_cons.1 h).resolve_left λe'=>h1 e'.symm)];rfl
variable {α:Type}
def ABK {k:iII} {v:α} {es:List (iII×α)} (h:k∉es.map (λe=>e.1)):(nK es k v).map (λe=>e.1)=es.map (λe=>e.1)++[k]:=by
 rw[GS λe he h'=>h (List.mem_map.2 ⟨e,he,h'⟩),List.map_append];rfl
def ABI {k:iII}:∀ {es:List (iII×Bool)},(∀ e∈es,e.2=true)->∀ e∈nK es k true,e.2=true
 | [],_,e,h=>by rw[nK,List.mem_singleton] at h;rw[h]
 | a::es,hp,e,h=>by
  unfold nK at h;split at h
  ·rcases List.mem_cons.1 h with h|h
   ·rw[h]
   ·exact hp e (List.mem_cons_of_mem _ h)
  ·rcases List.mem_cons.1 h with h|h
   ·rw[h];exact hp a am
   ·exact ABI (λe he=>hp e (List.mem_cons_of_mem _ he)) e h
def wO (p:iII->Prop) (n:Nat) (es:List (iII×Bool)):Prop:=(es.map λe=>e.1).Nodup/\(∀ s,s∈es.map (λe=>e.1)↔p s)/\es.length<=n/\∀ e∈es,e.2=true
variable {es:List (iII×Bool)}
def wO.ins {p q:iII->Prop} {n:Nat} {k:iII} (h:wO p n es) (hq:∀ s,q s↔p s\/s=k):wO q (n+1) (nK es k true):=by
 refine ⟨?_,λs=>?_,?_,ABI h.2.2.2⟩
 ·by_cases hm:k∈es.map (λe=>e.1)
  ·rw[VL hm];exact h.1
  ·rw[ABK hm,List.nodup_append];exact ⟨h.1,by simp,λa ha b hb e=>hm (by rw[List.mem_singleton.1 hb] at e;rw[<-e];exact ha)⟩
 ·rw[hq,<-h.2.1];by_cases hm:k∈es.map (λe=>e.1)
  ·rw[VL hm];exact ⟨.inl,λh'=>h'.elim (λh=>h) λe=>by rw[e];exact hm⟩
  ·rw[ABK hm,List.mem_append,List.mem_singleton]
 ·have:=ABJ (k:=k) (v:=true) (es:=es);have:=h.2.2.1;omega
def wO.mono {p q:iII->Prop} {n m:Nat} (h:wO p n es) (hq:∀ s,q s↔p s) (hm:n<=m):wO q m es:=⟨h.1,λs=>by rw[hq];exact h.2.1 s,Nat.le_trans h.2.2.1 hm,h.2.2.2⟩
def wO.get {p:iII->Prop} {n:Nat} (h:wO p n es) (s:iII):(fI es s=none/\¬ p s)\/(fI es s=some true/\p s):=by
 rcases qP s es with ⟨h1,h2⟩|⟨j,hj,h1,_,h3⟩
 ·refine .inl ⟨h1,λhp=>?_⟩;obtain ⟨e,he,h⟩:=List.mem_map.1 ((h.2.1 s).2 hp);exact h2 e he h
 ·refine .inr ⟨by rw[h3,h.2.2.2 _ (ak hj)],(h.2.1 s).1 (List.mem_map.2 ⟨_,ak hj,h1⟩)⟩
abbrev A26 (gt:List T->Option T) (l:List aX) (EXIT:Int×List (iII×Bool)×PUnit->Prop):Prop :=
 dA Sy.str false Sy.bool [] λy0=>bB (Int×List (iII×Bool)×PUnit) (λX1 s2=>aC (decide (s2.1<(↑(List.map aN.enc l).length:Int)))
  (aR aN (List.map aN.enc l) s2.1 λy3=>aJ [(false,Sy.str.li)] (gt [aG true aN y3]) λ(y4:List iII) =>
   dA Sy.str false Sy.bool (List.map (b8 Sy.str false Sy.bool) s2.2.1) λy5 =>
    bB (Int×List (iII×Bool)×PUnit) (λX6 s7=>aC (decide (s7.1<(↑(List.map Sy.str.enc y4).length:Int)))
     (aR Sy.str (List.map Sy.str.enc y4) s7.1 λy8=>lC (Option (Nat×D)) (findD TypeDesc.string (Value.string y8) (List.map (b8 Sy.str false Sy.bool) s7.2.1) 0) λy9 =>
      dA Sy.str false Sy.bool (eJ (List.map (b8 Sy.str false Sy.bool) s7.2.1) y9 (Value.string y8) (D.p (pPR true))) λy10=>X6 (i64.wrap (s7.1+1),y10,()))
     (dA Sy.str false Sy.bool (List.map (b8 Sy.str false Sy.bool) s7.2.1) λy11=>X1 (i64.wrap (s2.1+1),y11,()))) (0,y5,()))
  (EXIT s2)) (0,y0,())
variable {gt:List T->Option T}{M:Nat}
def A2W {tf:aX->List iII} {l:List aX} (hM:M<=3000000) (hNm:∀ e∈l,(tf e).length<=M) (hok:∀ e∈l,gt [aG true aN e]=some (Sh.enc [(false,Sy.str.li)] (tf e))) (hl:l.length<=100000) {EXIT:Int×List (iII×Bool)×PUnit->Prop}
  (hE:∀ i es,wO (λs=>∃ e∈l,s∈tf e) (l.length*M) es->EXIT (i,es,())):A26 gt l EXIT:=by
 refine jU (r:=.bool) rfl [] _ ?_;refine bK l.length (λk s=>s.1=(k:Int)/\wO (λs=>∃ e∈l.take k,s∈tf e) (k*M) s.2.1) ⟨rfl,List.Pairwise.nil,λs=>Iff.intro (λh=>by cases h) (λh=>by obtain ⟨e,he,_⟩:=h;rw[List.take_zero] at he;cases he),Nat.zero_le _,λe he=>by cases he⟩ ?_;rintro X k ⟨i,es,u⟩ hk ⟨rfl,hs⟩ hX;dsimp only at hs ⊢;rw[ae];refine cA (λhlt=>?_) λhge=>?_
 ·have hlt:k<l.length:=by omega
  rw[bD (r:=aN) hlt];have hw:∀ {j:Nat},j<=3000000->i64.wrap ((j:Int)+1)=((j+1:Nat):Int):=λh=>bG _ (by omega) (by omega);refine aF (s:=[(false,Sy.str.li)]) (y:=tf l[k]) (hok _ (ak hlt)) ?_;refine jU (r:=.bool) rfl _ _ ?_;have hN:(tf l[k]).length<=M:=hNm _ (ak hlt);generalize hB:tf l[k]=B at hN ⊢;refine bK B.length (λj s=>s.1=(j:Int)/\wO (λs=>(∃ e∈l.take k,s∈tf e)\/s∈B.take j) (k*M+j) s.2.1) ⟨rfl,hs.mono (λs=>by simp) (by omega)⟩ ?_;rintro Y j ⟨i,es2,u⟩ hj ⟨rfl,hs2⟩ hY;dsimp only at hs2 ⊢;rw[ae];refine cA (λhlt2=>?_) λhge2=>?_
  ·have hlt2:j<B.length:=by omega
   rw[bD (r:=.str) hlt2];refine AKJ (r:=.bool) rfl ?_;refine hY _ hlt2 ⟨hw (by omega),hs2.ins λs=>?_⟩;rw[List.take_succ_eq_append_getElem hlt2,List.mem_append,List.mem_singleton,or_assoc]
  ·have:j=B.length:=by omega
   subst this;refine jU (r:=.bool) rfl _ _ ?_;refine hX _ hlt ⟨hw (by omega),hs2.mono (λs=>?_) (by rw[Nat.succ_mul];omega)⟩;show (∃ e,e∈l.take (k+1)/\s∈tf e)↔(∃ e,e∈l.take k/\s∈tf e)\/s∈B.take B.length;rw[List.take_length,List.take_succ_eq_append_getElem hlt];constructor
   ·rintro ⟨e,he,h⟩;rcases List.mem_append.1 he with he|he
    ·exact .inl ⟨e,he,h⟩
    ·rw[List.mem_singleton.1 he,hB] at h;exact .inr h
   ·rintro (⟨e,he,h⟩|h)
    ·exact ⟨e,List.mem_append_left _ he,h⟩
    ·exact ⟨l[k],List.mem_append_right _ (List.mem_singleton.2 rfl),by rw[hB];exact h⟩
 ·have:k=l.length:=by omega
  subst this;rw[List.take_length] at hs;exact hE _ _ hs
end Go.Pv
namespace Go.Pv
open Go Go.Proofs IntKind
def nG (l:List UInt8):iII:=⟨l.toArray⟩
def BJD:a8:=(nG [],0,0,nG [],nG [],0,([],[]),nG [],0,0,(0,0,0),(0,0,0),0)
def BBA (k:Int) (a b:iII):aX:=(k,a,b,(nG [],0,nG []),BJD,(nG [],nG [],nG [],0,0,0),(nG [],nG [],[],0,[]),(0,nG [],nG []))
def Q6 (n:Nat):aX:=match n with
 | 0=>BBA 6 (nG [80,49]) (nG [65,49])
 | 1=>BBA 2 (nG [65,50]) (nG [])
 | _=>BBA 4 (nG [80,49]) (nG [])
def o20:cZ:=(nG [67,49],[Q6 0,Q6 1])
def c20:cZ:=(nG [],[Q6 2])
def t20:List UInt8:=[64,0,64,64,0,0,64,64,0,128,128,64,0,0,0,0,0,0,0,0,0,64,64,64,0,0,0,64,64,128,0,128,0,64,64]
def b20 (n:Nat):iII:=match n with
 | 0=>nG ([6,66,80,49,66,65,49]++t20)
 | _=>nG ([2,66,65,50,64]++t20)
def IZ:FuncId->Bool:=λf=>[60,71,113,245,111,110].contains f
def G7:Env:=Env.of [(7000000000+92,.mark)]
def tX:aV Tryz.prog G7:=aV.cons (x:=.mark) trivial (aV.nil _)
noncomputable def BCP:List T->Option T:=OR Tryz.prog 400 IZ G7 40 38
def A6Q:aP Tryz.prog 38 BCP:=lY aY a7 400 IZ tX 40 (nZ (k:=39) (fn:=_) (c:=_) (by kernel_rfl) Tryz.func38 rfl (by kernel_rfl))
noncomputable def BHV:List T->Option T:=OR Tryz.prog 400 IZ G7 40 36
def A6S:aP Tryz.prog 36 BHV:=lY aY a7 400 IZ tX 40 (nZ (k:=39) (fn:=_) (c:=_) (by kernel_rfl) Tryz.func36 rfl (by kernel_rfl))
noncomputable def BHT:List T->Option T:=OR Tryz.prog 400 IZ G7 40 37
def A6R:aP Tryz.prog 37 BHT:=lY aY a7 400 IZ tX 40 (nZ (k:=39) (fn:=_) (c:=_) (by kernel_rfl) Tryz.func37 rfl (by kernel_rfl))
noncomputable def AX8:List T->Option T:=OR Tryz.prog 400 IZ G7 40 70
def A6T:aP Tryz.prog 70 AX8:=lY aY a7 400 IZ tX 40 (nZ (k:=39) (fn:=_) (c:=_) (by kernel_rfl) Tryz.func70 rfl (by kernel_rfl))
def BBC:BCP [aG true aN (Q6 0)]=some (.v (.string (b20 0))):=by kernel_rfl
def BBD:BCP [aG true aN (Q6 1)]=some (.v (.string (b20 1))):=by kernel_rfl
def BJE:BHV [.v (.string (nG [67,49]))]=some (.v (.string (nG [66,67,49]))):=by kernel_rfl
def BJA:BHT [.v (.int .i64 2)]=some (.v (.string (nG [130]))):=by kernel_rfl
def BHF (x:aX):iII:=if x.1=6 then b20 0 else b20 1
noncomputable def r20:iII:=(nG [66,67,49]++nG [130])++sV BHF o20.2
def w20:iII:=nG ([66,67,49,130,6,66,80,49,66,65,49]++t20++[2,66,65,50,64]++t20)
def BIM:r20=w20:=by kernel_rfl
noncomputable def BCO:List T->Option T:=gD (DE [([aG true dF o20],.v (.string w20))])
def A6O:aP Tryz.prog 12 BCO:=(A6J A6Q A6S A6R BHF (nG [66,67,49]) (nG [130]) o20 BJE BJA (λx hx=>by
  simp only[o20,List.mem_cons,List.not_mem_nil,or_false] at hx;rcases hx with rfl|rfl
  ·exact BBC
  ·exact BBD) (by show r20.size<=_;rw[BIM];decide +kernel) (by decide) (g:=DE [([aG true dF o20],.v (.string w20))]) λargs r h=>by
  cases List.mem_singleton.1 (yY h);exact ⟨rfl,by rw[<-BIM];rfl⟩).deep
def AKF:FuncId->Bool:=λf=>[29,73,74,75,52,30,31,57,33,32,54,56,53,55,76,77,78].contains f
noncomputable def BHU:List T->Option T:=A18 Tryz.prog 400 AKF G7 40 32
def i20:T:=.v (.int .i64 0)
def x20:iII:=nG ([6,66,80,49,66,65,49]++t20++[2,66,65,50,64]++t20)
def BEY:BHU [.agg [.v (.string x20),i20]]=some (.b7 [.agg [.v (.string (b20 1)),i20],aG true aN (Q6 0)]):=by kernel_rfl
def BEZ:BHU [.agg [.v (.string (b20 1)),i20]]=some (.b7 [.agg [.v (.string (nG [])),i20],aG true aN (Q6 1)]):=by kernel_rfl
noncomputable def BCQ:List T->Option T:=DE [([.agg [.v (.string x20),i20]],.b7 [.agg [.v (.string (b20 1)),i20],aG true aN (Q6 0)]),([.agg [.v (.string (b20 1)),i20]],.b7 [.agg [.v (.string (nG [])),i20],aG true aN (Q6 1)])]
def A6U:cN Tryz.prog 32 (vZ BCQ):=Z6 (AHH aY a7 400 AKF tX 40 Tryz.func32 rfl) λargs r h=>by
 rcases List.mem_cons.1 (yY h) with h|h
 ·cases h;exact BEY
 ·cases List.mem_singleton.1 h;exact BEZ
noncomputable def AZ0:Env:=Env.of [(32,.AP9 BCQ)]
def AP0:aV Tryz.prog AZ0:=aV.cons (x:=.AP9 BCQ) A6U (aV.nil _)
noncomputable def BHS:List T->Option T:=OR Tryz.prog 400 AKF AZ0 40 10
def A6P:aP Tryz.prog 10 BHS:=lY aY a7 400 AKF AP0 40 (nZ (k:=39) (fn:=_) (c:=_) (by kernel_rfl) Tryz.func10 rfl (by kernel_rfl))
def BI6:BHS [.v (.string w20)]=some (.b7 [aG true dF o20,.v (.int .i64 0)]):=by kernel_rfl
noncomputable def BCN:List T->Option T:=DE [([.v (.string w20)],.b7 [aG true dF o20,.v (.int .i64 0)])]
def A6N:aP Tryz.prog 10 BCN:=GF A6P λx hx=>by
 cases List.mem_singleton.1 hx;exact BI6
noncomputable def GO:List T->Option T:=AX8
def A6Y:aP Tryz.prog 70 GO:=A6T
def AJG (x:aX):List iII:=if x.1=6 then [nG [65,49],nG [80,49]] else if x.1=2 then [nG [65,50]] else [nG [80,49]]
def BE8:AX8 [aG true aN (Q6 0)]=some (Sh.enc [(false,Sy.str.li)] (AJG (Q6 0))):=by kernel_rfl
def BE9:AX8 [aG true aN (Q6 1)]=some (Sh.enc [(false,Sy.str.li)] (AJG (Q6 1))):=by kernel_rfl
def BFA:AX8 [aG true aN (Q6 2)]=some (Sh.enc [(false,Sy.str.li)] (AJG (Q6 2))):=by kernel_rfl
def DN:List (List T)->Option (List (List T)):=xP
def AGY (l:List iII) (K:List (List T)->Prop):lC (List (List T)) (DN (List.map Sy.str.enc l)) K=K (List.map Sy.str.enc (yM kU l)):=ABA l K
def AX3:cN Tryz.prog 71 (DD 1 DN):=AO4
noncomputable def A96:Env:=Env.of [(70,.pure GO),(71,.perm 1 DN)]
def BAL:FuncId->Hint:=λf=>match f == 46 with|true=>⟨A0A [(3,.alt [.val 12 false (.int .i64),.map 7 .str false .bool] [.val 12 false (.int .i64),.map 3 .str false .bool]),(6,.alt [.val 19 false (.int .i64),.map 7 .str false .bool] [.val 19 false (.int .i64),.map 3 .str false .bool])],λ_ _=>none,λ_=>none⟩|false=>match f == 47 with|true=>⟨λr=>match r == 3 with|true=>.inv [.own 5 1 .str,.nF 8 (some 7)]|false=>.none,λ_ _=>none,λr=>match r == 4 with|true=>some (.str,false,.bool)|false=>none⟩|false=>bA
def ATK:aV Tryz.prog A96:=.cons A6Y (.cons AX3 (.nil _))
def AER(a0:cZ)(a1:cZ)(R:T->Prop):Prop:=dA Sy.str false Sy.bool [] λ(y0:List (iII×Bool))=>bB (Int×List (iII×Bool)×PUnit) (λX1 s2=>aC (decide (s2.1<(↑(BM7 a1).length:Int))) (aR aN (BM7 a1) s2.1 λ(y3:aX)=>aJ BMD (GO [aG true aN y3]) λ(y4:List iII)=>dA Sy.str false Sy.bool (List.map (b8 Sy.str false Sy.bool) s2.2.1) λ(y5:List (iII×Bool))=>bB (Int×List (iII×Bool)×PUnit) (λX6 s7=>aC (decide (s7.1<(↑(BMN y4).length:Int))) (aR Sy.str (BMN y4) s7.1 λ(y8:iII)=>lC (Option (Nat×D)) (findD TypeDesc.string (Value.string y8) (List.map (b8 Sy.str false Sy.bool) s7.2.1) 0) λ(y9:Option (Nat×D))=>dA Sy.str false Sy.bool (eJ (List.map (b8 Sy.str false Sy.bool) s7.2.1) y9 (Value.string y8) (D.p BMJ)) λ(y10:List (iII×Bool))=>X6 (i64.wrap (s7.1+1),y10,())) (dA Sy.str false Sy.bool (List.map (b8 Sy.str false Sy.bool) s7.2.1) λ(y11:List (iII×Bool))=>X1 (i64.wrap (s2.1+1),y11,()))) (0,y5,())) (dA Sy.str false Sy.bool [] λ(y12:List (iII×Bool))=>bB (Int×List (iII×Bool)×PUnit) (λX13 s14=>aC (decide (s14.1<(↑(BM7 a0).length:Int))) (aR aN (BM7 a0) s14.1 λ(y15:aX)=>aJ BMD (GO [aG true aN y15]) λ(y16:List iII)=>dA Sy.str false Sy.bool (List.map (b8 Sy.str false Sy.bool) s14.2.1) λ(y17:List (iII×Bool))=>bB (Int×List (iII×Bool)×PUnit) (λX18 s19=>aC (decide (s19.1<(↑(BMN y16).length:Int))) (aR Sy.str (BMN y16) s19.1 λ(y20:iII)=>lC (Option (Nat×D)) (findD TypeDesc.string (Value.string y20) (List.map (b8 Sy.str false Sy.bool) s19.2.1) 0) λ(y21:Option (Nat×D))=>dA Sy.str false Sy.bool (eJ (List.map (b8 Sy.str false Sy.bool) s19.2.1) y21 (Value.string y20) (D.p BMJ)) λ(y22:List (iII×Bool))=>X18 (i64.wrap (s19.1+1),y22,())) (dA Sy.str false Sy.bool (List.map (b8 Sy.str false Sy.bool) s19.2.1) λ(y23:List (iII×Bool))=>X13 (i64.wrap (s14.1+1),y23,()))) (0,y17,())) (bB (List iII×(Nat×List Nat×Nat)×PUnit) (λX24 s25=>bR (decide ((List.map (b8 Sy.str false Sy.bool) s14.2.1).length <= s25.2.1.1) && decide (s25.2.1.1<=s25.2.1.2.2)) (sZ (List.map (b8 Sy.str false Sy.bool) s14.2.1).length s25.2.1.2.1 (lC (List (List T)) (DN (List.map Sy.str.enc s25.1)) λ(y26:List (List T))=>R (T.sl false y26)) λ(i27:Nat)=>bR (decide ((List.map (b8 Sy.str false Sy.bool) s14.2.1).length = (List.map (b8 Sy.str false Sy.bool) s14.2.1).length)) (BS Sy.str false Sy.bool (List.map (b8 Sy.str false Sy.bool) s14.2.1) (s25.2.1.2.1++[i27]) λ(k28:iII) (y29:Bool)=>gW TypeDesc.string (Value.string k28) (List.map (b8 Sy.str false Sy.bool) s2.2.1) false Sy.bool (dM Sy.str (List.map Sy.str.enc s25.1) λ(y34:List iII)=>X24 (y34, (s25.2.1.1,s25.2.1.2.1++[i27], (List.map (b8 Sy.str false Sy.bool) s14.2.1).length), ())) λ(i30:Nat) (y31:Bool)=>aC y31 (bR (decide (((List.map Sy.str.enc s25.1).length+1)*16<=140737488355328) && decide ((List.map Sy.str.enc s25.1).length+1<=140737488355328)) (dM Sy.str (List.map Sy.str.enc s25.1++(BNK k28)) λ(y32:List iII)=>X24 (y32, (s25.2.1.1,s25.2.1.2.1++[i27], (List.map (b8 Sy.str false Sy.bool) s14.2.1).length), ()))) (dM Sy.str (List.map Sy.str.enc s25.1) λ(y33:List iII)=>X24 (y33, (s25.2.1.1,s25.2.1.2.1++[i27], (List.map (b8 Sy.str false Sy.bool) s14.2.1).length), ()))))) ([], ((List.map (b8 Sy.str false Sy.bool) s14.2.1).length,[], (List.map (b8 Sy.str false Sy.bool) s14.2.1).length), ()))) (0,y12,()))) (0,y0,())
abbrev AIC:Sh:=[(true,dF),(true,dF)]
def p20:iII:=nG [80,49]
noncomputable def zQ (x:cZ×cZ):Option T:=match nJ x.1 o20&&nJ x.2 c20 with
 | true=>some (T.sl false (List.map Sy.str.enc [p20]))
 | false=>none
noncomputable def AGM:List T->Option T:=gS AIC zQ
def APH {a0 a1}:AGM [aG true dF a0,aG true dF a1]=zQ (a0,a1):=bI (s:=AIC) rfl (a0,a1) rfl
def A7X:rJ Tryz.prog 18 AGM zQ (cC AIC) AER:=gZ (a1:=(true,dF)) (a2:=(true,dF)) (sp:=zQ) (F:=AER) (Hs:=BAL) (f:=18) (k:=10) ATK aY a7 (aO rfl) ⟨_,_,Tryz.func18,rfl⟩ rfl λ_ _ _=>by kernel_rfl
variable {α:Type}
def A8F {a:α}:∀ {l:List α},l.Nodup->(∀ s,s∈l↔s=a)->l=[a]
 | [],_,h=>by have:=(h a).2 rfl;cases this
 | [b],_,h=>by rw[(h b).1 am]
 | b::c::l,hn,h=>by
  have h1:=(h b).1 am;have h2:=(h c).1 (List.mem_cons_of_mem _ am);exact absurd (List.mem_cons.2 (.inl (h1.trans h2.symm))) (List.pairwise_cons.1 hn |>.1 b |> λf hm=>(List.nodup_cons.1 hn).1 hm)
def A6H:aP Tryz.prog 18 AGM:=A7X λa b r h hb=>by
 clear hb;unfold zQ at h;split at h
 case h_2=>cases h
 rename_i hc;cases h;rw[ac] at hc;obtain rfl:a=o20:=fP.1 hc.1;obtain rfl:b=c20:=fP.1 hc.2;clear hc;unfold AER BM7 BNK BMN BMJ BMD;have oc:∀ e∈c20.2,e=Q6 2:=λe he=>List.mem_singleton.1 he;have oo:∀ e∈o20.2,e=Q6 0\/e=Q6 1:=λe he=>by
  rcases List.mem_cons.1 he with h|h
  ·exact .inl h
  ·exact .inr (List.mem_singleton.1 h)
 refine A2W (gt:=GO) (tf:=AJG) (M:=2) (l:=c20.2) (by omega) (λe he=>by rw[oc e he];decide) (λe he=>by rw[oc e he];exact BFA) (by decide) λ_ eb sb=>?_;refine A2W (gt:=GO) (tf:=AJG) (M:=2) (l:=o20.2) (by omega) (λe he=>by rcases oo e he with h|h<;>rw[h]<;>decide) (λe he=>by
  rcases oo e he with h|h
  ·rw[h];exact BE8
  ·rw[h];exact BE9) (by decide) λ_ es hs=>?_
 have hz:es.length<=4:=hs.2.2.1;have sb1:∀ s,(∃ e∈c20.2,s∈AJG e)↔s=p20:=λs=>⟨λ⟨e,he,h⟩=>by rw[oc e he] at h;exact List.mem_singleton.1 h,λh=>⟨Q6 2,List.mem_singleton.2 rfl,by rw[h];exact List.mem_singleton.2 rfl⟩⟩
 have hs1:∃ e∈o20.2,p20∈AJG e:=⟨Q6 0,am,List.mem_cons_of_mem _ am⟩
 refine A8M (ag:=false) (r:=.bool) rfl (λe=>(fI eb e.1).isSome) (λX out seen i hi h1 h2 hy hn=>?_) λo2 seen hm hl2 hnd=>?_
 ·have h1:out.length<=0+seen.length:=h1;have h2:seen.length<es.length:=h2;dsimp only;refine yU (r:=.bool) (λhg=>?_) λj v hg=>?_
  ·rw[dH (r:=.str) rfl];exact hn (by dsimp only;rw[hg];rfl)
  ·rcases sb.get es[i].1 with ⟨h,_⟩|⟨h,_⟩
   ·rw[h] at hg;cases hg
   ·rw[h] at hg;cases hg;rw[jY,AFJ (by omega),MO];exact hy (by dsimp only;rw[h];rfl)
 ·show lC (List (List T)) (DN (List.map Sy.str.enc ([]++o2))) _;rw[List.nil_append,AGY];have e:o2=[p20]:=A8F (hnd hs.1) λs=>by
   rw[hm,<-sb1];constructor
   ·rintro ⟨e,he,rfl,h⟩;rcases sb.get e.1 with ⟨h',_⟩|⟨_,h'⟩
    ·rw[h'] at h;cases h
    ·exact h'
   ·intro h;have hp:=(sb1 s).1 h;obtain ⟨e,he,h1⟩:=List.mem_map.1 ((hs.2.1 s).2 (by rw[hp];exact hs1));refine ⟨e,he,h1,?_⟩;rcases sb.get s with ⟨_,h'⟩|⟨h',_⟩
    ·exact absurd h h'
    ·rw[h1,h'];rfl
  rw[e,show yM kU [p20]=[p20] by unfold yM kU;simp[jS]]
noncomputable def BCM:List T->Option T:=gD (DE [([aG true dF o20,aG true dF c20],.sl false [[.v (.string p20)]])])
def A6M:aP Tryz.prog 18 BCM:=(GF A6H λx hx=>by
 cases List.mem_singleton.1 hx;rw[APH];unfold zQ;rw[fP.2 rfl,fP.2 rfl];rfl).deep
end Go.Pv
namespace Go.Pv
open Go Go.Proofs IntKind
noncomputable def AZ2:Env:=Env.of [(66,.pure (DE Q7)),(83,.pure sF),(318,.fresh (pV 1 8)),(103,.fresh (pV 3 40)),(104,.fresh (pV 6 72)),(105,.fresh (pV 3 40)),(136,.fresh (pV 2 16)),(137,.fresh (pV 1 24)),(106,.fresh (pV 18 208)),(107,.fresh (pV 5 88)),(243,.fresh (pV 1 16)),(280,.grow 3 kD),(5000000000+38,.mark)]
def AP2:aV Tryz.prog AZ2:=aV.cons (x:=.pure (DE Q7)) AJ8 (aV.cons (x:=.pure sF) w9 (aV.cons (x:=.fresh (pV 1 8)) ZT (aV.cons (x:=.fresh (pV 3 40)) RB (aV.cons (x:=.fresh (pV 6 72)) RE (aV.cons (x:=.fresh (pV 3 40)) RA (aV.cons (x:=.fresh (pV 2 16)) AJ6 (aV.cons (x:=.fresh (pV 1 24)) ZU (aV.cons (x:=.fresh (pV 18 208)) RD (aV.cons (x:=.fresh (pV 5 88)) RC (aV.cons (x:=.fresh (pV 1 16)) ZV (aV.cons (x:=.grow 3 kD) B0 (aV.cons (x:=.mark) trivial (aV.nil _)))))))))))))
noncomputable def gIn:List T->Option T:=OR Tryz.prog 400 AKG AZ2 40 44
def BB0:aP Tryz.prog 44 gIn:=lY aY a7 400 AKG AP2 40 (nZ (k:=39) (fn:=_) (c:=_) (by kernel_rfl) Tryz.func44 rfl (by kernel_rfl))
def BC0:FuncId->Bool:=λf=>[260,86,128,45].contains f
noncomputable def AKL:Env:=Env.of [(83,.pure sF),(66,.pure (DE Q7)),(44,.pure gIn),(12,.pure BCO),(10,.pure BCN),(18,.pure BCM),(5000000000+38,.mark)]
def AG9:aV Tryz.prog AKL:=aV.cons (x:=.pure sF) w9 (aV.cons (x:=.pure (DE Q7)) AJ8 (aV.cons (x:=.pure gIn) BB0 (aV.cons (x:=.pure BCO) A6O (aV.cons (x:=.pure BCN) A6N (aV.cons (x:=.pure BCM) A6M (aV.cons (x:=.mark) trivial (aV.nil _)))))))
def BHW:List T->Option T:=λargs=>match args with | []=>some (.v (.bool true))|_=>none
def nR:List T->Option T:=BHW
def AF5:aP Tryz.prog 9 nR :=
 AOT aY a7 400 BC0 (B:=AKL) AG9 40 (by kernel_rfl)
end Go.Pv
namespace Go.Pv
open Go Go.Proofs IntKind
def awD {K:Bool->Prop} (h:K true):aJ [(false,Sy.bool)] (nR []) K:=aF (s:=[(false,.bool)]) (y:=true) rfl h
def AOE {o:cZ} {n:Int} (h:tE o n=true):(o.2.length:Int)<=n:=by
 unfold tE at h;rw[ac,ac,ah,ah] at h;exact h.2.1
structure AWB (d:aB) (o:cZ):Prop where
 D:I4 d=true
 K:HA d=true
 E:∀ x∈o.2,fL (cI x)=true/\eT (iQ x)=true
def BH1 {d:aB} {o:cZ} (h:SY d o=true):AWB d o:=by
 unfold SY at h;simp only[ac,List.all_eq_true] at h;exact ⟨h.1.1,h.1.2,h.2⟩
def BBG {d:aB} (h:few d 40=true):JF 40 d:=AXQ h
variable {m:aI}
def BG7 {d:aB} {o:cZ} {b:Nat} (c:AWB d o) (hf:JF b d) (hb:b<=900):B6 [aG true aD d,aG true aM m,aG true dF o]=some (Sh.enc [(true,aD),(false,.int .i64)] (wF d m o)):=ANW (BEQ hf hb c.D c.K c.E)
def BAZ {d:aB} {o:cZ} {b:Nat} (c:AWB d o) (hf:JF b d) (h:(wF d m o).2=0):JF (b+o.2.length) (wF d m o).1/\I4 (wF d m o).1=true/\HA (wF d m o).1=true:=by
 obtain ⟨_,e⟩:=AJV h;rw[e] at h ⊢;exact L6 hf c.D c.K c.E h
end Go.Pv
namespace Go.Pv
open Go Go.Proofs IntKind
section
variable {α : Type} {af : α -> α -> Bool} {p q : α -> Bool} {f g : α -> α} {l : List α} {x y z : α}
def BA6 (h:p z=true):gV p (z::l)=l:=by
 unfold gV;rw[List.findIdx_cons,h];rfl
def BA5 (h:p z=false):gV p (z::l)=z::gV p l:=by
 unfold gV;rw[List.findIdx_cons,h];rfl
def A9K (h:p z=true):JW p f (z::l)=f z::l:=by
 unfold JW;rw[List.findIdx_cons,h];rfl
def A9J (h:p z=false):JW p f (z::l)=z::JW p f l:=by
 unfold JW;rw[List.findIdx_cons,h];rfl
structure Ord (af:α->α->Bool):Prop where
 trans:∀ {a b c},af c b=true->af b a=true->af c a=true
 irr:∀ a,af a a=false
end
end Go.Pv
namespace Go.Pv
open Go Go.Proofs IntKind
def opN (x:aX) (l:List bQ):List bQ:=if x.1=1 then jX eM l (sX x) else if x.1=2 then gV (cV (fD x)) l else l
def S0 (x:aX) (l:List a8):List a8:=if x.1=3 then jX eM l (cI x) else if x.1=4 then gV (cV (fD x)) l else if x.1=5 then JW (cV (cI x).1) (AH7 (cI x)) l else if x.1=6 then JW (cV (fD x)) (λp=>AHI p (eTo x)) l else l
def opS (x:aX) (l:List bT):List bT:=if x.1=7 then jX eM l (sY x) else if x.1=8 then gV (cV (fD x)) l else l
def opK (x:aX) (l:List aQ):List aQ:=if x.1=9 then jX eM l (iQ x) else if x.1=10 then gV (cV (fD x)) l else l
def opR (x:aX) (l:List bM):List bM:=if x.1=11 then jX BM l (nN x) else if x.1=12 then gV (λn=>decide (n=nN x)) l else l
def BA7 {d:aB} {x:aX} (h:1<=x.1/\x.1<=12):mI d x=(d.1,opN x d.2.1,S0 x d.2.2.1,opS x d.2.2.2.1,opK x d.2.2.2.2.1,opR x d.2.2.2.2.2):=by
 have:x.1=1\/x.1=2\/x.1=3\/x.1=4\/x.1=5\/x.1=6\/x.1=7\/x.1=8\/x.1=9\/x.1=10\/x.1=11\/x.1=12:=by omega
 rcases this with h|h|h|h|h|h|h|h|h|h|h|h<;>simp[mI,opN,S0,opS,opK,opR,h]
variable {m:aI}
def ANX {d:aB} (hc:iP d m=0):zF d=true:=by
 have hf:oM d=0:=by
  unfold iP at hc;split at hc
  ·exact absurd hc ‹_›
  split at hc
  ·cases hc
  split at hc
  ·exact absurd hc ‹_›
  rename_i h3;exact Classical.byContradiction h3
 unfold oM at hf;split at hf
 ·cases hf
 split at hf
 ·cases hf
 rename_i h2;simpa using h2
variable {α:Type}
def ANO {l:List (iII×α)} (h:q7 (ids l)=true):l.Pairwise (λa b=>eM b a=true):=by
 have:=L9 h;unfold ids at this;rw[List.pairwise_map] at this;exact this.imp λh=>(nB ..).2 h
section
variable {α : Type} {l : List (iII × α)}
end
structure BJL (d:aB) (m:aI) (x y:aX):Prop where
 a:P5 d m x
 b:P5 d m y
 c:P5 (mI d x) m y
 e:P5 (mI d y) m x
section
variable {d : aB} {m : aI} {x y : aX}
def tId (x:aX):iII:=if x.1=5 then (cI x).1 else fD x
def tF (x:aX) (p:a8):a8:=if x.1=5 then AH7 (cI x) p else AHI p (eTo x)
def turns (x:aX):Prop:=x.1=5\/x.1=6
def OJ (h:turns x) (l:List a8):S0 x l=JW (cV (tId x)) (tF x) l:=by
 rcases h with h|h
 ·have e:tF x=AH7 (cI x):=by funext p;unfold tF;rw[if_pos h]
  unfold S0 tId;rw[e,if_neg (by omega),if_neg (by omega),if_pos h,if_pos h]
 ·have e:tF x=λp=>AHI p (eTo x):=by funext p;unfold tF;rw[if_neg (by omega)]
  unfold S0 tId;rw[e,if_neg (by omega),if_neg (by omega),if_neg (by omega),if_pos h,if_neg (by omega)]
def A24 {a:a8} (ha:cV (tId x) a=true):(tF x a).1=a.1:=by
 have ha:a.1=tId x:=of_decide_eq_true ha;unfold tF;unfold tId at ha;split
 ·rename_i h;rw[if_pos h] at ha;exact ha.symm
 ·rfl
def AFM {α:Type} {p:iII×α->Bool} {f:iII×α->iII×α} (hf:∀ a,p a=true->(f a).1=a.1):∀ l,ids (JW p f l)=ids l
 | []=>rfl
 | z::l=>by
  cases h:p z
  ·rw[A9J h];show z.1::ids (JW p f l)=z.1::ids l;rw[AFM hf l]
  ·rw[A9K h];show (f z).1::ids l=z.1::ids l;rw[hf z h]
def BA8 (hd:P5 d m x):(mI d x).2.2.1=S0 x d.2.2.1:=by rw[BA7 hd.kind]
def A8J (hc:iP d m=0) {p:a8} (hp:p∈d.2.2.1):sH p.1=true:=by
 have h1:lX d m=0:=by
  unfold iP at hc;split at hc
  ·exact absurd hc ‹_›
  split at hc
  ·cases hc
  split at hc
  ·exact absurd hc ‹_›
  split at hc
  ·exact absurd hc ‹_›
  split at hc
  ·exact absurd hc ‹_›
  rename_i h;exact Classical.byContradiction h
 have h2:cH (jK d m) d.2.2.1=0:=by
  unfold lX at h1;split at h1
  ·assumption
  ·exact h1
 have h3:=w6 h2 p hp;have h4:pC p m=0:=by
  unfold jK at h3;split at h3
  ·assumption
  ·exact h3
 unfold pC at h4;split at h4
 ·cases h4
 rename_i h;rw[not_or] at h;simpa using h.1
end
end Go.Pv
namespace Go.Pv
open Go Go.Proofs IntKind
def A0S {l:List iII} {s:iII} (h:s∈l) (hn:s≠⟨#[]⟩):s∈lA l:=by
 have h1:toL s∈(lA l).map toL:=(SV l (toL s)).2 ⟨List.mem_map.2 ⟨s,h,rfl⟩,λe=>hn (by rw[<-jS s,e];rfl)⟩;obtain ⟨t,ht,e⟩:=List.mem_map.1 h1;rw[<-jS s,<-e,jS];exact ht
def ARX {x:aX} (h:turns x):tId x∈cR x:=by
 rcases h with h|h
 ·unfold tId cR;rw[if_pos h,if_neg (by omega),if_neg (by omega),if_pos (by omega)];exact am
 ·have e1:tId x=fD x:=by unfold tId;rw[if_neg (by omega)]
  have e2:cR x=[x.2.1,x.2.2.1]:=by
   unfold cR;rw[if_neg (by omega),if_neg (by omega),if_neg (by omega),if_pos h]
  rw[e1,e2];exact am
end Go.Pv
namespace Go.Pv
open Go Go.Proofs IntKind
section
variable {α : Type} {l : List (iII × α)} {id j : iII}
def CO:(l.find? λs=>decide (s.1=id)).isSome=true↔id∈ids l:=by
 rw[List.find?_isSome];constructor
 ·rintro ⟨a,ha,h⟩;exact List.mem_map.2 ⟨a,ha,of_decide_eq_true h⟩
 ·intro h;obtain ⟨a,ha,e⟩:=List.mem_map.1 h;exact ⟨a,ha,ai e⟩
def AOG {a:iII×α} (h:a.1≠id):(jX eM l a).find? (λs=>decide (s.1=id))=l.find? λs=>decide (s.1=id):=by
 unfold jX;rw[List.find?_append,List.find?_cons_of_neg (by simpa using h),<-List.find?_append,List.take_append_drop]
def GA (h:j≠id):∀ l:List (iII×α),(gV (cV j) l).find? (λs=>decide (s.1=id))=l.find? λs=>decide (s.1=id)
 | []=>rfl
 | z::l=>by
  cases hz:cV j z with
  | true =>
   have e:z.1=j:=of_decide_eq_true hz;rw[BA6 hz,List.find?_cons_of_neg (by rw[e];simpa using h)]
  | false =>
   rw[BA5 hz,List.find?_cons,List.find?_cons,GA h l]
def ZR {f:iII×α->iII×α} (hf:∀ a,cV j a=true->(f a).1=a.1) (h:j≠id):∀ l:List (iII×α),(JW (cV j) f l).find? (λs=>decide (s.1=id))=l.find? λs=>decide (s.1=id)
 | []=>rfl
 | z::l=>by
  cases hz:cV j z with
  | true =>
   have e:z.1=j:=of_decide_eq_true hz;rw[A9K hz,List.find?_cons_of_neg (by rw[hf z hz,e];simpa using h),List.find?_cons_of_neg (by rw[e];simpa using h)]
  | false =>
   rw[A9J hz,List.find?_cons,List.find?_cons,ZR hf h l]
end
section
variable {d : aB} {m : aI} {x : aX} {id : iII}
def AHZ (h3:¬ x.1=3) (h4:¬ x.1=4) (ht:¬ turns x) (l:List a8):S0 x l=l:=by
 unfold turns at ht;unfold S0;rw[if_neg h3,if_neg h4,if_neg (λh=>ht (.inl h)),if_neg (λh=>ht (.inr h))]
def A7J (h:x.1=3):(cI x).1∈cR x:=by
 unfold cR;rw[if_neg (by omega),if_neg (by omega),if_pos (.inl h)];exact am
def A7K (h:x.1=4):fD x∈cR x:=by
 unfold cR;rw[if_neg (by omega),if_pos (.inr (.inl h))];exact am
def AH0 (hd:P5 d m x) (hn:id∉cR x):partOf (mI d x) id=partOf d id:=by
 unfold partOf;rw[BA8 hd];by_cases h3:x.1=3
 ·rw[show S0 x d.2.2.1=jX eM d.2.2.1 (cI x) by unfold S0;rw[if_pos h3]];exact AOG λe=>hn (e ▸ A7J h3)
 by_cases h4:x.1=4
 ·rw[show S0 x d.2.2.1=gV (cV (fD x)) d.2.2.1 by unfold S0;rw[if_neg h3,if_pos h4]];exact GA (λe:fD x=id=>hn (by rw[<-e];exact A7K h4)) _
 by_cases ht:turns x
 ·rw[OJ ht];exact ZR (λa ha=>A24 ha) (λe:tId x=id=>hn (by rw[<-e];exact ARX ht)) _
 ·rw[AHZ h3 h4 ht]
def ARF (hd:P5 d m x) (h:(partOf d id).isSome=true):(partOf (mI d x) id).isSome=true\/(x.1=4/\x.2.1=id):=by
 have h0:id∈ids d.2.2.1:=CO.1 h;by_cases h4:x.1=4/\x.2.1=id
 ·exact .inr h4
 refine .inl (CO.2 ?_);rw[BA8 hd];by_cases h3:x.1=3
 ·rw[show S0 x d.2.2.1=jX eM d.2.2.1 (cI x) by unfold S0;rw[if_pos h3]];obtain ⟨a,ha,e⟩:=List.mem_map.1 h0;exact List.mem_map.2 ⟨a,DR.2 (.inr ha),e⟩
 by_cases h4':x.1=4
 ·rw[show S0 x d.2.2.1=gV (cV (fD x)) d.2.2.1 by unfold S0;rw[if_neg h3,if_pos h4']];refine CO.1 ?_;rw[GA (λe=>h4 ⟨h4',e⟩)];exact h
 by_cases ht:turns x
 ·rw[OJ ht,AFM (λa ha=>A24 ha)];exact h0
 ·rw[AHZ h3 h4' ht];exact h0
def A1I (hd:P5 d m x) (h:(partOf (mI d x) id).isSome=true):(partOf d id).isSome=true\/(x.1=3/\(cI x).1=id):=by
 have h0:id∈ids (mI d x).2.2.1:=CO.1 h;rw[BA8 hd] at h0;by_cases h3:x.1=3
 ·rw[show S0 x d.2.2.1=jX eM d.2.2.1 (cI x) by unfold S0;rw[if_pos h3]] at h0;obtain ⟨a,ha,e⟩:=List.mem_map.1 h0;rcases DR.1 ha with rfl|ha
  ·exact .inr ⟨h3,e⟩
  ·exact .inl (CO.2 (List.mem_map.2 ⟨a,ha,e⟩))
 refine .inl (CO.2 ?_);by_cases h4:x.1=4
 ·rw[show S0 x d.2.2.1=gV (cV (fD x)) d.2.2.1 by unfold S0;rw[if_neg h3,if_pos h4]] at h0;obtain ⟨a,ha,e⟩:=List.mem_map.1 h0;exact List.mem_map.2 ⟨a,C0 ha,e⟩
 by_cases ht:turns x
 ·rw[OJ ht,AFM (λa ha=>A24 ha)] at h0;exact h0
 ·rw[AHZ h3 h4 ht] at h0;exact h0
end
variable {m : aI} {id : iII}
def ON:∀ {l:List aX} {d:aB},(dR m d l).2=0->(∀ x∈l,id∉cR x)->partOf (dR m d l).1 id=partOf d id
 | [],_,_,_=>rfl
 | x::l,d,h,hn=>by
  obtain ⟨hd,e⟩:=rK h;rw[e] at h ⊢;rw[ON h λy hy=>hn y (List.mem_cons_of_mem _ hy),AH0 hd (hn x am)]
def OM:∀ {l:List aX} {d:aB},(dR m d l).2=0->(partOf d id).isSome=true->(partOf (dR m d l).1 id).isSome=true\/∃ x∈l,x.1=4/\x.2.1=id
 | [],_,_,hi=>.inl hi
 | x::l,d,h,hi=>by
  obtain ⟨hd,e⟩:=rK h;rw[e] at h ⊢;rcases ARF hd hi with h1|h1
  ·exact (OM h h1).imp_right λ⟨y,hy,h2⟩=>⟨y,List.mem_cons_of_mem _ hy,h2⟩
  ·exact .inr ⟨x,am,h1⟩
def S6:∀ {l:List aX} {d:aB},(dR m d l).2=0->(partOf (dR m d l).1 id).isSome=true->(partOf d id).isSome=true\/∃ x∈l,x.1=3/\(cI x).1=id
 | [],_,_,hi=>.inl hi
 | x::l,d,h,hi=>by
  obtain ⟨hd,e⟩:=rK h;rw[e] at h hi;rcases S6 h hi with h1|⟨y,hy,h1⟩
  ·exact (A1I hd h1).imp_right λh2=>⟨x,am,h2⟩
  ·exact .inr ⟨y,List.mem_cons_of_mem _ hy,h1⟩
def BDM {l:List aX} (h:id∉FH l) (hn:id≠⟨#[]⟩):∀ x∈l,id∉cR x:=λx hx hc=>h (AC7.2 ⟨x,hx,A0S hc hn⟩)
end Go.Pv
namespace Go.Pv
open Go Go.Proofs IntKind
structure Val (d:aB) (m:aI):Prop where
 order:zF d=true
 nodes:∀ n∈d.2.1,tZ d n=0
 up:A7O d=false
 parts:∀ p∈d.2.2.1,jK d m p=0
 BJI:∀ s∈d.2.2.2.1,wE d s=0
 BJH:(oG d d.2.2.2.2.1 0 [] []).1=0
 BJG:∀ n∈d.2.2.2.2.2,xZ d n=0
section
variable {d : aB} {m : aI} {x : aX}
def BHY {s:iII} (h:sH s=true):s≠⟨#[]⟩:=λe=>by rw[e] at h;exact absurd h (by decide)
variable {α:Type}
def AHL {l:List (iII×α)} (ho:q7 (ids l)=true) {a:iII×α} (ha:a∈l):l.find? (λs=>decide (s.1=a.1))=some a:=by
 have hpw:=ANO ho;cases hf:l.find? λs=>decide (s.1=a.1) with
 | none=>exact absurd (ai rfl) (List.find?_eq_none.1 hf a ha)
 | some b =>
  have hb:=List.mem_of_find?_eq_some hf;have he:b.1=a.1:=by simpa using List.find?_some hf
  refine congrArg some ?_;obtain ⟨i,hi,rfl⟩:=List.mem_iff_getElem.1 ha;obtain ⟨j,hj,rfl⟩:=List.mem_iff_getElem.1 hb;have hs:∀ p q (hp:p<l.length) (hq:q<l.length),p<q->l[p].1≠l[q].1:=λp q hp hq hpq e=>by
   have h1:=List.pairwise_iff_getElem.1 hpw p q hp hq hpq;unfold eM gtS at h1;rw[e,HW] at h1;cases h1
  rcases Nat.lt_trichotomy i j with g|g|g
  ·exact absurd he.symm (hs i j hi hj g)
  ·subst g;rfl
  ·exact absurd he (hs j i hj hi g)
end
end Go.Pv
namespace Go.Pv
open Go Go.Proofs IntKind
section
variable {α : Type}
end
section
variable {d : aB} {m : aI} {x : aX} {i : iII}
def A8G (h:zF d=true):q7 (ids d.2.1)=true/\q7 (ids d.2.2.1)=true/\q7 (ids d.2.2.2.1)=true/\q7 (ids d.2.2.2.2.1)=true/\Y8 d.2.2.2.2.2=true:=by
 simp only[zF,ac] at h;exact ⟨h.1.1.1.1,h.1.1.1.2,h.1.1.2,h.1.2,h.2⟩
end
section
variable {m : aI} {a b : List aX} {d : aB}
structure BJK (m:aI) (d:aB) (a b:List aX):Prop where
 chk:iP d m=0
 a1:(dR m d a).2=0
 b1:(dR m d b).2=0
 a2:(dR m (dR m d a).1 b).2=0
 b2:(dR m (dR m d b).1 a).2=0
 apart:∀ s,s∈FH a->s∉FH b
end
end Go.Pv
namespace Go.Pv
open Go Go.Proofs IntKind
def nf (k:Int) (id:iII) (x:aX):Bool:=decide (x.1=k)&&(decide (x.2.1=id)||(decide (k=3)&&decide ((cI x).1=id)))
def o8 (o:cZ) (k:Int) (id:iII):Bool:=o.2.any (nf k id)
noncomputable def A3I:Env:=Env.of []
def A40:FuncId->Hint:=b6 21 [(2,.inv [.val 7 false (.int .i64)])] (λ_=>bA)
def AMN:aV Tryz.prog A3I:=.nil _
def T2(a0:cZ)(a1:Int)(a2:iII)(R:T->Prop):Prop:=bB (Int×PUnit) (λX0 s1=>aC (decide (s1.1<(↑(BM7 a0).length:Int))) (aR aN (BM7 a0) s1.1 λ(y2:aX)=>aC (decide (y2.1=a1)) (aC (decide (y2.2.1=a2)) (R BMJ) (aC (decide (a1=3)) (aC (decide (y2.2.2.2.2.1.1=a2)) (R BMJ) (BMW X0 s1)) (BMW X0 s1))) (BMW X0 s1)) (R BMF)) (0,())
abbrev WD:Sh:=[(true,dF),(false,(Sy.int IntKind.i64)),(false,Sy.str)]
def yG (x:cZ×Int×iII):Option T:=match decide (x.1.2.length<=100) with
 | true=>some (Sh.enc kO (o8 x.1 x.2.1 x.2.2))
 | false=>none
noncomputable def uY:List T->Option T:=gS WD yG
def AGP {a0 a1 a2}:uY [aG true dF a0,pPP a1,pPQ a2]=yG (a0,a1,a2):=bI (s:=WD) rfl (a0,a1,a2) rfl
def A0Y:Of3 Tryz.prog 21 uY yG (cC WD) T2:=QO (a1:=(true,dF)) (a2:=(false,(Sy.int IntKind.i64))) (a3:=(false,Sy.str)) (sp:=yG) (F:=T2) (Hs:=A40) (f:=21) (k:=8) AMN aY a7 (aO rfl) ⟨_,_,Tryz.func21,rfl⟩ rfl λ_ _ _ _=>by kernel_rfl
def AXV:aP Tryz.prog 21 uY:=A0Y λo k id r h hb=>by
 clear hb;obtain ⟨hl,rfl⟩:=zK h;clear h;have hl:o.2.length<=100:=of_decide_eq_true hl;unfold T2 BM7 BMW BMJ BMF;have yes:o8 o k id=true->pPR true=Sh.enc kO (o8 o k id):=λh=>by rw[h];rfl
 refine bK o.2.length (λj s=>s=((j:Int),())/\o8 o k id=(o.2.drop j).any (nf k id)) ⟨rfl,rfl⟩ ?_;rintro X j s hj ⟨rfl,he⟩ hX;dsimp only;rw[ae];refine cA (λhlt=>?_) λhge=>?_
 ·have hlt:j<o.2.length:=by omega
  rw[bD (r:=aN) hlt];rw[List.drop_eq_getElem_cons hlt,List.any_cons] at he;have next:nf k id o.2[j]=false->X (i64.wrap ((j:Int)+1),()):=λh=>hX _ hlt ⟨by rw[show i64.wrap ((j:Int)+1)=((j+1:Nat):Int) from bG _ (by omega) (by omega)],by rw[he,h,Bool.false_or]⟩
  have stop:nf k id o.2[j]=true->pPR true=Sh.enc kO (o8 o k id):=λh=>yes (by rw[he,h];rfl);refine cA (λh1=>?_) λh1=>next (by unfold nf;rw[aj h1];rfl)
  refine cA (λh2=>stop (by unfold nf;rw[ai h1,ai h2];rfl)) λh2=>?_;refine cA (λh3=>?_) λh3=>next (by unfold nf;rw[aj h2,aj h3];simp)
  exact cA (λh4=>stop (by unfold nf;rw[ai h1,ai h3,ai h4];simp)) λh4=>next (by unfold nf;rw[aj h2,aj h4];simp)
 ·rw[he,List.drop_eq_nil_of_le (by omega)];rfl
noncomputable def ADL:Env:=Env.of [(40,.pure AAE),(24,.pure DI),(14,.pure B6),(19,.pure DO),(20,.pure tL),(22,.pure pH),(23,.pure iW),(21,.pure uY),(9,.pure nR)]
def AE7:FuncId->Hint:=b6 7 [(8,.inv [.val 10 false (.int .i64)]),(15,.inv [.val 14 false (.int .i64)])] (λ_=>bA)
def TV:aV Tryz.prog ADL:=.cons BBY (.cons AXU (.cons A6E (.cons AX4 (.cons AOU (.cons ZX (.cons QG (.cons AXV (.cons AF5 (.nil _)))))))))
def BNM(y5:List iII)(y8:a8)(a0:aB)(s7:Int×PUnit)(y9:a8×Bool)(R:T->Prop)(X6:Int×PUnit->Prop):Prop:=aJ BMB (pH [T.sl false (BMN y5),pPQ y8.1]) λ(y11:Bool)=>aC (!y11) (aR aK (BMQ a0) s7.1 λ(y12:a8)=>aJ BMB (iW [aG true aK y9.1,aG true aK y12]) λ(y13:Bool)=>aC (!y13) (R BMF) (BMW X6 s7)) (BMW X6 s7)
def BH(a0:aB)(a1:aI)(a2:cZ)(R:T->Prop):Prop:=aJ BMB (AAE [aG true aD a0,pPP 40]) λ(y0:Bool)=>aC y0 (aJ BMB (DI [aG true dF a2,pPP 12]) λ(y1:Bool)=>aC (!y1) (aJ BMB (nR []) λ(y2:Bool)=>R (pPR y2)) (aJ [(true,aD),(false,Sy.int IntKind.i64)] (B6 [aG true aD a0,aG true aM a1,aG true dF a2]) λ(y3:aB×Int)=>aC (!decide (y3.2=0)) (aJ BMB (nR []) λ(y4:Bool)=>R (pPR y4)) (aJ BMD (DO [aG true dF a2]) λ(y5:List iII)=>bB (Int×PUnit) (λX6 s7=>aC (decide (s7.1<(↑(BMQ a0).length:Int))) (aR aK (BMQ a0) s7.1 λ(y8:a8)=>aJ BMG (tL [aG true aD y3.1,pPQ y8.1]) λ(y9:a8×Bool)=>aC (!y9.2) (aJ BMB (uY [aG true dF a2,pPP 4, pPQ y8.1]) λ(y10:Bool)=>aC (!y10) (R BMF) (BNM y5 y8 a0 s7 y9 R X6)) (BNM y5 y8 a0 s7 y9 R X6)) (bB (Int×PUnit) (λX17 s18=>aC (decide (s18.1<(↑(BNU y3).length:Int))) (aR aK (BNU y3) s18.1 λ(y19:a8)=>aJ BMG (tL [aG true aD a0,pPQ y19.1]) λ(y20:a8×Bool)=>aC (!y20.2) (aR aK (BNU y3) s18.1 λ(y21:a8)=>aJ BMB (uY [aG true dF a2,pPP 3, pPQ y21.1]) λ(y22:Bool)=>aC (!y22) (R BMF) (BMW X17 s18)) (BMW X17 s18)) (aJ BMB (nR []) λ(y23:Bool)=>R (pPR y23))) (0,()))) (0,())))) (aJ BMB (nR []) λ(y24:Bool)=>R (pPR y24))
abbrev vM:Sh:=[(true,aD),(true,aM),(true,dF)]
noncomputable def oV (x:aB×aI×cZ):Option T:=match SY x.1 x.2.2 with
 | true=>some (pPR true)
 | false=>none
noncomputable def NR:List T->Option T:=gS vM oV
def AB9:Of3 Tryz.prog 7 NR oV (cC vM) BH:=QO (a1:=(true,aD)) (a2:=(true,aM)) (a3:=(true,dF)) (sp:=oV) (F:=BH) (Hs:=AE7) (f:=7) (k:=8) TV aY a7 (aO rfl) ⟨_,_,Tryz.func7,rfl⟩ rfl λ_ _ _ _=>by kernel_rfl
def A7I {o:cZ} {id:iII} (h:∃ x∈o.2,x.1=4/\x.2.1=id):o8 o 4 id=true:=by
 obtain ⟨x,hx,h1,h2⟩:=h;exact List.any_eq_true.2 ⟨x,hx,by unfold nf;rw[ai h1,ai h2];rfl⟩
def A7H {o:cZ} {id:iII} (h:∃ x∈o.2,x.1=3/\(cI x).1=id):o8 o 3 id=true:=by
 obtain ⟨x,hx,h1,h2⟩:=h;exact List.any_eq_true.2 ⟨x,hx,by unfold nf;rw[ai h1,ai h2];simp⟩
def ZZ:aP Tryz.prog 7 NR:=AB9 λd m o r h hb=>by
 clear hb;obtain ⟨hc,rfl⟩:=j0 h;clear h;have c:=BH1 hc;clear hc;unfold BH BNU BNM BMW BMN BMQ BMG BMF BMD BMB;refine aF (s:=kO) (y:=few d 40) (AY0 ..) ?_;refine vA (λhf=>?_) λ_=>awD rfl;have hf:=BBG hf;refine aF (s:=kO) (y:=tE o 12) (AGN ..) ?_;refine fK (λ_=>awD rfl) λh2=>?_;have hl:=AOE h2;have hto:=AXR (by omega) h2;refine aF (s:=[(true,aD),(false,.int .i64)]) (y:=wF d m o) (BG7 c hf (by omega)) ?_;refine kX (λ_=>awD rfl) λh0=>?_;obtain ⟨q1,q2,q3⟩:=BAZ c hf h0;obtain ⟨hck,hA⟩:=AJV h0;have hA0:(dR m d o.2).2=0:=by rw[<-hA];exact h0
 have hA1:(wF d m o).1=(dR m d o.2).1:=congrArg (·.1) hA;generalize (wF d m o)=y at h0 q1 q2 q3 hA hA1 ⊢;have ho:=A8G (ANX hck);refine aF (s:=[(false,Sy.str.li)]) (y:=FH o.2) ((AGZ ..).trans (by unfold yI;rw[hto];rfl)) ?_;have nm:∀ k id,uY [aG true dF o,pPP k,pPQ id]=some (Sh.enc kO (o8 o k id)):=λk id=>(AGP ..).trans (by unfold yG;rw[ai (by dsimp only;omega)]);refine bK d.2.2.1.length (λk s=>s=((k:Int),())) rfl ?_;rintro X k s hk rfl hX;dsimp only;rw[ae];refine cA (λhlt=>?_) λhge=>?_
 ·have hlt:k<d.2.2.1.length:=by omega
  have hd40:=hf.p;rw[bD (r:=aK) hlt];have next:X (i64.wrap ((k:Int)+1),()):=hX _ hlt (by rw[show i64.wrap ((k:Int)+1)=((k+1:Nat):Int) from bG _ (by omega) (by omega)])
  have hin:d.2.2.1[k]∈d.2.2.1:=ak hlt;have hpk:d.2.2.1[k]? = some d.2.2.1[k]:=List.getElem?_eq_getElem hlt;generalize d.2.2.1[k]=p at hin hpk ⊢;have hpd:partOf d p.1=some p:=AHL ho.2.1 hin;have hpn:=BHY (A8J hck hin);have stay:VI (FH o.2) p.1=false->partOf y.1 p.1=some p:=λh=>by
   rw[hA1,ON hA0 (BDM (λhc=>by rw[NW.2 hc] at h;cases h) hpn),hpd]
  have tail:∀ q:a8,(VI (FH o.2) p.1=false->q=p)->aJ [(false,Sy.bool)] (pH [T.sl false (List.map Sy.str.enc (FH o.2)),pPQ p.1]) λ(y11:Bool) =>
    aC (!y11) (aR aK (List.map aK.enc d.2.2.1) (k:Int) λ(y12:a8)=>aJ [(false,Sy.bool)] (iW [aG true aK q,aG true aK y12]) λ(y13:Bool)=>aC (!y13) (pPR false=pPR true) (X (i64.wrap ((k:Int)+1),()))) (X (i64.wrap ((k:Int)+1),())):=λq hq=>by
   refine aF (s:=kO) (y:=VI (FH o.2) p.1) (NP ..) ?_;refine fK (λhn=>?_) λ_=>next
   refine ALE (r:=aK) rfl hpk ?_;refine aF (s:=kO) (y:=nJ q p) (JK ..) ?_;rw[fP.2 (hq hn)];exact fK (λh=>by cases h) λ_=>next
  refine aF (s:=[(true,aK),(false,.bool)]) (y:=found dV (partOf y.1 p.1)) (IT ..) ?_;cases hy:partOf y.1 p.1 with
  | some q =>
   exact fK (λh=>by cases h) λ_=>tail q λhn=>Option.some.inj (hy.symm.trans (stay hn))
  | none =>
   refine fK (λ_=>?_) λh=>by cases h
   refine aF (s:=kO) (y:=o8 o 4 p.1) (nm ..) ?_;have h4:o8 o 4 p.1=true:=by
    rcases OM (id:=p.1) hA0 (by rw[hpd];rfl) with h|h
    ·rw[<-hA1,hy] at h;cases h
    ·exact A7I h
   rw[h4];exact fK (λh=>by cases h) λ_=>tail dV λhn=>by have:=stay hn;rw[hy] at this;cases this
 ·have hq40:=q1.p;dsimp only at hq40;refine bK y.1.2.2.1.length (λk s=>s=((k:Int),())) rfl ?_;rintro X k s hk rfl hX;dsimp only;rw[ae];refine cA (λhlt=>?_) λ_=>awD rfl;have hlt:k<y.1.2.2.1.length:=by omega
  rw[bD (r:=aK) hlt];have next:X (i64.wrap ((k:Int)+1),()):=hX _ hlt (by rw[show i64.wrap ((k:Int)+1)=((k+1:Nat):Int) from bG _ (by omega) (by omega)])
  have hin:y.1.2.2.1[k]∈y.1.2.2.1:=ak hlt;have hpk:y.1.2.2.1[k]? = some y.1.2.2.1[k]:=List.getElem?_eq_getElem hlt;generalize y.1.2.2.1[k]=p at hin hpk ⊢;refine aF (s:=[(true,aK),(false,.bool)]) (y:=found dV (partOf d p.1)) (IT ..) ?_;refine fK (λhn=>?_) λ_=>next
  refine ALE (r:=aK) rfl hpk ?_;refine aF (s:=kO) (y:=o8 o 3 p.1) (nm ..) ?_;have h3:o8 o 3 p.1=true:=by
   rcases S6 (id:=p.1) hA0 (by rw[<-hA1];exact CO.2 (List.mem_map.2 ⟨p,hin,rfl⟩)) with h|h
   ·exfalso;cases hd:partOf d p.1 with
    | none=>rw[hd] at h;cases h
    | some q=>rw[hd] at hn;cases hn
   ·exact A7H h
  rw[h3];exact fK (λh=>by cases h) λ_=>next
def ACK:∀ x:aB×aI×cZ,BAW vM x->oV x=some (.v (.bool true)):=λ⟨d,m,o⟩ h=>dP (c:=SY d o) (a:=pPR true) (A1C h.1 h.2.2)
end Go.Pv
