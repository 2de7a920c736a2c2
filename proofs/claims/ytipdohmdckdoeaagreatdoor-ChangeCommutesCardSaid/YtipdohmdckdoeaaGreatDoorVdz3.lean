/-
  edit.Apply, kind by kind.
  edit.Apply, the kinds 5 and 6 (the copied parts are turned in place).
  shipyardref16.Few, shipyardref19.Few.
  edit.Apply with a kind that there is not; edit.Apply.
  Designs that an edit makes are not too large.
  Change orders, plain: an order has the effect of its beginning followed by the rest.
  change.Apply: an order, edit by edit.
  VersionChanges, plain: maps of first elements, what differs; the least behind the last.
  slices.Sort, Compact, DeleteFunc, Grow at strings.
  edit.Touches.
  Ascending lists of strings, each once (plain).
  VersionChanges, plain: what two designs differ in, ascending.
  shipyardref19.Touches.
  shipyardref19.Touches.
  ChangeTouches, plain: what orders name.
  shipyardref20.with, Touched, Conflicts, Few.
  Functions given by a table of arguments and results.
  Chapter 20's examples: the calls of edit.Apply, each run for itself. (The table is printed by tools/tab20.py.)
  strings.Builder: WriteString and String, by the library's contracts.
  change.Encode: the round's body: an edit is read, encoded, written.
  change.Encode.
  The bytes of numbers, texts and lists (plain).
  cbor.Int, Text, List; the same of the reference.
  shipyardref05.Int, Text, List.
  The encoding of lists, contours, parts and edits.
  change.Encode, the contract.
  VersionChanges: maps of records keyed by strings, and ranges over them.
  Sets of names as maps, and ranges over them.
  Chapter 20's examples: what Encode and Conflicts answer there (what they call is run for itself).
  The examples of chapter 20, run by the kernel.
  What the laws about a design and an order share.
  Edits of different elements do not touch each other (plain).
  Two accepted edits that name nothing in common lead to one design in both sequences (plain).
  Edits that name nothing in common (plain).
  Change orders, plain: what becomes of parts.
  EditOne (plain): what was added to a valid design can be removed from it again, and that leads back.
  Change orders that name nothing in common lead to one design in both sequences (plain).
  change.Touched, Conflicts.
  change.Conflicts.
  ChangeCommutes: what the law comes to.
-/
import Derived.Test.YtipdohmdckdoeaaGreatDoorVdz2
import Derived.Test.YtipdohmdckdoeaaGreatDoorVdz1
import Derived.Test.YtipdohmdckdoeaaGreatDoorVdkn
import Derived.Test.YtipdohmdckdoeaaGreatDoorVdkq
import Derived.Test.YtipdohmdckdoeaaGreatDoorVdkr
import Derived.Test.YtipdohmdckdoeaaGreatDoorVdlv
import Derived.KernelRfl
import Derived.Sort.Walk0
import Derived.Test.YtipdohmdckdoeaaGreatDoorVdgs
import Derived.Test.YtipdohmdckdoeaaGreatDoorVdcb
import Derived.Shelf.Strings.Builder1
import Derived.Shelf.Strings.BuilderF
import Derived.Shelf.Strings.MapGrows
import Derived.Test.YtipdohmdckdoeaaGreatDoorVdkh
import Derived.WalkKit
import Derived.BigCall
import Derived.Deep.RegionWith
import Derived.Deep.LoopGhost
import Derived.Laws.BytesArg
import Derived.Test.YtipdohmdckdoeaaGreatDoorVdkp
import Derived.Test.YtipdohmdckdoeaaGreatDoorVdkw
import Derived.Test.YtipdohmdckdoeaaGreatDoorVdkj
set_option linter.defProp false
set_option linter.unusedSimpArgs false
set_option linter.unusedVariables false
set_option maxRecDepth 100000
namespace Go.Pv
open Go Go.Proofs IntKind
def okX (d:aB) (x:aV):Bool:=vS d&&(fM (cV x)&&eU (hU x))
def lT {d:aB} {x:aV} (h:okX d x=true):vS d=true/\fM (cV x)=true/\eU (hU x)=true:=by
 unfold okX at h;rw[ac,ac] at h;exact h
def lQ (k:Int) (x y:o4) (h:([aH true aD x.1,aH true aK x.2.1,aH true aM (k,x.2.2)]:List T)=[aH true aD y.1,aH true aK y.2.1,aH true aM (k,y.2.2)]):x=y:=by
 simp only[List.cons.injEq,and_true] at h;obtain ⟨h1,h2,h3⟩:=h;exact Prod.ext (mT (r:=aD) rfl h1) (Prod.ext (mT (r:=aK) rfl h2) (Prod.mk.inj (mT (r:=aM) rfl h3)).2)
def dO {c:Bool} {a:T}:c=true->(match c with|true=>some a|false=>none)=some a:=λh=>by rw[h]
variable {α:Type}
def gY (no:α) (o:Option α):(found no o).2=o.isSome:=by cases o<;>rfl
variable {m:aI}
def lR {d:aB} {x:aV} (hk:1<=x.1/\x.1<=12) (h:l8 x (bW x)=false):bI d m x=(rI,2):=by
 unfold bI;rw[if_neg (λh=>h hk),if_pos (.inl h)]
def tL {d:aB} {x:aV} (hk:1<=x.1/\x.1<=12) (h5:¬ x.1=5) (h:l8 x (bW x)=true) (ha:kS x=true) (ht:dQ d x=true):bI d m x=(rI,7):=by
 unfold bI;rw[if_neg (λh=>h hk),if_neg (λe=>e.elim (λe=>by rw[h] at e;cases e) λe=>h5 e.1),if_pos ⟨ha,ht⟩]
def tK {d:aB} {x:aV} (hk:1<=x.1/\x.1<=12) (h5:¬ x.1=5) (h:l8 x (bW x)=true) (ha:kS x=false) (ht:dQ d x=false):bI d m x=(rI,8):=by
 unfold bI;rw[if_neg (λh=>h hk),if_neg (λe=>e.elim (λe=>by rw[h] at e;cases e) λe=>h5 e.1),if_neg (λe=>by rw[ha] at e;cases e.1),if_pos ⟨ha,ht⟩]
def DT {d:aB} {x:aV} (hk:1<=x.1/\x.1<=12) (h5:¬ x.1=5) (h:l8 x (bW x)=true) (ha:dQ d x = !kS x) (hu:kX d x=true):bI d m x=(rI,34):=by
 unfold bI;rw[if_neg (λh=>h hk),if_neg (λe=>e.elim (λe=>by rw[h] at e;cases e) λe=>h5 e.1),if_neg (λe=>by rw[ha,e.1] at e;cases e.2),if_neg (λe=>by rw[ha,e.1] at e;cases e.2),if_neg (λe=>h5 e.1),if_pos hu]
def eX {d:aB} {x:aV} (hk:1<=x.1/\x.1<=12) (h5:¬ x.1=5) (h:l8 x (bW x)=true) (ha:dQ d x = !kS x) (hu:kX d x=false):bI d m x=if gQ (lE d x) m=0 then (lE d x,0) else (rI,gQ (lE d x) m):=by
 unfold bI;rw[if_neg (λh=>h hk),if_neg (λe=>e.elim (λe=>by rw[h] at e;cases e) λe=>h5 e.1),if_neg (λe=>by rw[ha,e.1] at e;cases e.2),if_neg (λe=>by rw[ha,e.1] at e;cases e.2),if_neg (λe=>h5 e.1),if_neg (by rw[hu];decide)]
def KQ (a0:aB) (a1:aI) (a2:iII×iII×bN×a8×bS×aQ×bE):List T:=[aH true aD a0,aH true aK a1,aH true aM (1,a2)]
noncomputable def AR5:Env:=Env.of [(93,.pure cH),(147,.pure R4),(149,.pure C3),(69,.pure fJ),(150,.pure RP),(65,.pure cW)]
def A84:FuncId->Hint:=λ_=>bA
def A3W:aU Tryz.prog AR5:=.cons jJ (.cons BCD (.cons AJ5 (.cons oE (.cons BBX (.cons kH (.nil _))))))
def BMC:List T:=[pPQ ({data:=#[]}),T.sl false [],T.sl false [], T.sl false [],T.sl false [],T.sl false []]
def BME:Sh:=[(false,Sy.int IntKind.i64)]
def BMF:Sh:=[(false,Sy.bool)]
def BMG:List T:=[T.agg BMC, pPP 2]
def BMM:List T:=[T.agg BMC, pPP 7]
def BMW(y4:aB)(a1:aI)(R:T->Prop):Prop:=aJ BME (cW [aH true aD y4,aH true aK a1]) λ(y5:Int)=>aC (!decide (y5=0)) (R (T.b9 [T.agg BMC, pPP y5])) (R (T.b9 [aH true aD y4,pPP 0]))
def ATW(a0:aB)(a1:aI)(a2:iII×iII×bN×a8×bS×aQ×bE)(R:T->Prop):Prop:=aJ [(true,aM)] (R4 [(aH true aM (1,a2))]) λ(y0:aV)=>aJ BMF (cH [(aH true aM (1,a2)), aH true aM y0]) λ(y1:Bool)=>aC (!y1) (R (T.b9 BMG)) (aJ [(true,bB),(false,Sy.bool)] (C3 [aH true aD a0,pPQ a2.2.2.1.1]) λ(y2:bN×Bool)=>aC y2.2 (R (T.b9 BMM)) (aJ [(true,aD)] (fJ [aH true aD a0]) λ(y3:aB)=>aJ [(true,aD)] (RP [aH true aD y3, (aH true aM (1,a2))]) λ(y4:aB)=>BMW y4 a1 R))
def ATX ( a0 a1 a2 R):eJ b8 Tryz.prog AR5 A84 8 66 (KQ a0 a1 a2) R=ATW a0 a1 a2 R:=by kernel_rfl
noncomputable def AIQ (x:o4):Option T:=match okX x.1 (1,x.2.2) with
 | true=>some (Sh.enc [(true,aD),(false,.int .i64)] (bI x.1 x.2.1 (1,x.2.2)))
 | false=>none
def ALT (x y:o4) (h:KQ x.1 x.2.1 x.2.2=KQ y.1 y.2.1 y.2.2):x=y:=lQ 1 x y h
noncomputable def AX9:List T->Option (T):=gA (λ(x:aB×aI×iII×iII×bN×a8×bS×aQ×bE)=>KQ x.1 x.2.1 x.2.2) AIQ
def AYA (a0:aB) (a1:aI) (a2:iII×iII×bN×a8×bS×aQ×bE):AX9 (KQ a0 a1 a2)=AIQ (a0,a1,a2):=fP (A:=(λ(x:aB×aI×iII×iII×bN×a8×bS×aQ×bE)=>KQ x.1 x.2.1 x.2.2)) ALT (a0,a1,a2)
def BDT (h:∀ (a0:aB) (a1:aI) (a2:iII×iII×bN×a8×bS×aQ×bE) (r:T),AIQ (a0,a1,a2)=some r->(∀ t∈KQ a0 a1 a2,Bd t)->ATW a0 a1 a2 (λy=>y=r)):aP Tryz.prog 66 AX9 :=
 cU (E:=AR5) (Hs:=A84) A3W aZ a7 (aO rfl) 8 ⟨_,_,Tryz.func66,rfl⟩ λx r h1 h2=>by
  rw[ATX];exact h x.1 x.2.1 x.2.2 r h1 h2
def AXP:aP Tryz.prog 66 AX9:=BDT λd m x r h hb=>by
 clear hb;obtain ⟨hp,rfl⟩:=j6 h;clear h;obtain ⟨hc,ho1,ho2⟩:=lT hp;have c:=dY hc;have is:∀ {a:aB×Int},bI d m (1,x)=a->Sh.enc [(true,aD),(false,.int .i64)] a=Sh.enc [(true,aD),(false,.int .i64)] (bI d m (1,x)):=λh=>by rw[h]
 have hk:(1:Int)<=((1,x):aV).1/\((1,x):aV).1<=12:=by dsimp only;omega
 have h5:¬ ((1,x):aV).1=5:=by dsimp only;omega
 have lift:∀ {a:aB×Int},bI d m (1,x)=a->∀ v,v=Sh.enc [(true,aD),(false,.int .i64)] a->v=Sh.enc [(true,aD),(false,.int .i64)] (bI d m (1,x)):=λh v hv=>by rw[h];exact hv
 unfold ATW BMW BMM BMG BMF BME BMC;have z1:R4 [aH true aM (1,x)]=some (Sh.enc [(true,aM)] (bW (1,x))):=(AY3 ..).trans rfl;refine aG (s:=[(true,aM)]) (y:=bW (1,x)) z1 ?_;have z2:cH [aH true aM (1,x),aH true aM (bW (1,x))]=some (Sh.enc lB (l8 (1,x) (bW (1,x)))):=fK ..;refine aG (s:=lB) (y:=l8 (1,x) (bW (1,x))) z2 ?_;refine iE (λh=>lift (lR hk h) _ rfl) λhE=>?_;refine aG (s:=[(true,bB),(false,.bool)]) (y:=found iF (eG d (pC (1,x)).1)) (R0 ..) ?_;have ht:dQ d (1,x)=(found iF (eG d (pC (1,x)).1)).2:=(gY ..).symm;have hus:kX d (1,x)=false:=rfl;refine wU (λh=>lift (tL hk h5 hE rfl (ht.trans h)) _ rfl) λh=>?_;have hth:dQ d (1,x) = !kS (1,x):=ht.trans h;refine aG (s:=[(true,aD)]) (y:=d) ((gZ ..).trans (dO hc)) ?_;have z3:RP [aH true aD d,aH true aM (1,x)]=some (Sh.enc [(true,aD)] (lE d (1,x))):=(AYR ..).trans (dO hc);refine aG (s:=[(true,aD)]) (y:=lE d (1,x)) z3 ?_;refine aG (s:=[(false,.int .i64)]) (y:=gQ (lE d (1,x)) m) (gC ..) ?_;exact kU (λh=>lift ((eX hk h5 hE hth hus).trans (if_neg h)) _ rfl) λh=>lift ((eX hk h5 hE hth hus).trans (if_pos h)) _ rfl
def KS (a0:aB) (a1:aI) (a2:iII×iII×bN×a8×bS×aQ×bE):List T:=[aH true aD a0,aH true aK a1,aH true aM (3,a2)]
noncomputable def AR7:Env:=Env.of [(93,.pure cH),(167,.pure R8),(94,.pure lS),(69,.pure fJ),(169,.pure RR),(65,.pure cW)]
def A86:FuncId->Hint:=λ_=>bA
def A3Y:aU Tryz.prog AR7:=.cons jJ (.cons BCF (.cons D6 (.cons oE (.cons BBZ (.cons kH (.nil _))))))
def BMN:Sh:=[(true,aN),(false,Sy.bool)]
def AT0(a0:aB)(a1:aI)(a2:iII×iII×bN×a8×bS×aQ×bE)(R:T->Prop):Prop:=aJ [(true,aM)] (R8 [(aH true aM (3,a2))]) λ(y0:aV)=>aJ BMF (cH [(aH true aM (3,a2)), aH true aM y0]) λ(y1:Bool)=>aC (!y1) (R (T.b9 BMG)) (aJ BMN (lS [aH true aD a0,pPQ a2.2.2.2.1.1]) λ(y2:a8×Bool)=>aC y2.2 (R (T.b9 BMM)) (aJ [(true,aD)] (fJ [aH true aD a0]) λ(y3:aB)=>aJ [(true,aD)] (RR [aH true aD y3, (aH true aM (3,a2))]) λ(y4:aB)=>BMW y4 a1 R))
def AT1 ( a0 a1 a2 R):eJ b8 Tryz.prog AR7 A86 8 66 (KS a0 a1 a2) R=AT0 a0 a1 a2 R:=by kernel_rfl
noncomputable def AIS (x:o4):Option T:=match okX x.1 (3,x.2.2) with
 | true=>some (Sh.enc [(true,aD),(false,.int .i64)] (bI x.1 x.2.1 (3,x.2.2)))
 | false=>none
def ALV (x y:o4) (h:KS x.1 x.2.1 x.2.2=KS y.1 y.2.1 y.2.2):x=y:=lQ 3 x y h
noncomputable def AYD:List T->Option (T):=gA (λ(x:aB×aI×iII×iII×bN×a8×bS×aQ×bE)=>KS x.1 x.2.1 x.2.2) AIS
def AYE (a0:aB) (a1:aI) (a2:iII×iII×bN×a8×bS×aQ×bE):AYD (KS a0 a1 a2)=AIS (a0,a1,a2):=fP (A:=(λ(x:aB×aI×iII×iII×bN×a8×bS×aQ×bE)=>KS x.1 x.2.1 x.2.2)) ALV (a0,a1,a2)
def BDV (h:∀ (a0:aB) (a1:aI) (a2:iII×iII×bN×a8×bS×aQ×bE) (r:T),AIS (a0,a1,a2)=some r->(∀ t∈KS a0 a1 a2,Bd t)->AT0 a0 a1 a2 (λy=>y=r)):aP Tryz.prog 66 AYD :=
 cU (E:=AR7) (Hs:=A86) A3Y aZ a7 (aO rfl) 8 ⟨_,_,Tryz.func66,rfl⟩ λx r h1 h2=>by
  rw[AT1];exact h x.1 x.2.1 x.2.2 r h1 h2
def BBQ:aP Tryz.prog 66 AYD:=BDV λd m x r h hb=>by
 clear hb;obtain ⟨hp,rfl⟩:=j6 h;clear h;obtain ⟨hc,ho1,ho2⟩:=lT hp;have c:=dY hc;have is:∀ {a:aB×Int},bI d m (3,x)=a->Sh.enc [(true,aD),(false,.int .i64)] a=Sh.enc [(true,aD),(false,.int .i64)] (bI d m (3,x)):=λh=>by rw[h]
 have hk:(1:Int)<=((3,x):aV).1/\((3,x):aV).1<=12:=by dsimp only;omega
 have h5:¬ ((3,x):aV).1=5:=by dsimp only;omega
 have lift:∀ {a:aB×Int},bI d m (3,x)=a->∀ v,v=Sh.enc [(true,aD),(false,.int .i64)] a->v=Sh.enc [(true,aD),(false,.int .i64)] (bI d m (3,x)):=λh v hv=>by rw[h];exact hv
 unfold AT0 BMW BMN BMM BMG BMF BME BMC;have z1:R8 [aH true aM (3,x)]=some (Sh.enc [(true,aM)] (bW (3,x))):=(AY5 ..).trans rfl;refine aG (s:=[(true,aM)]) (y:=bW (3,x)) z1 ?_;have z2:cH [aH true aM (3,x),aH true aM (bW (3,x))]=some (Sh.enc lB (l8 (3,x) (bW (3,x)))):=fK ..;refine aG (s:=lB) (y:=l8 (3,x) (bW (3,x))) z2 ?_;refine iE (λh=>lift (lR hk h) _ rfl) λhE=>?_;refine aG (s:=[(true,aN),(false,.bool)]) (y:=found eN (partOf d (cV (3,x)).1)) ((qV ..).trans (by unfold lM;dsimp only;rw[c.JH];rfl)) ?_;have ht:dQ d (3,x)=(found eN (partOf d (cV (3,x)).1)).2:=(gY ..).symm;have hus:kX d (3,x)=false:=rfl;refine wU (λh=>lift (tL hk h5 hE rfl (ht.trans h)) _ rfl) λh=>?_;have hth:dQ d (3,x) = !kS (3,x):=ht.trans h;refine aG (s:=[(true,aD)]) (y:=d) ((gZ ..).trans (dO hc)) ?_;have z3:RR [aH true aD d,aH true aM (3,x)]=some (Sh.enc [(true,aD)] (lE d (3,x))):=(AYT ..).trans (dO (by rw[hc,ho1];rfl));refine aG (s:=[(true,aD)]) (y:=lE d (3,x)) z3 ?_;refine aG (s:=[(false,.int .i64)]) (y:=gQ (lE d (3,x)) m) (gC ..) ?_;exact kU (λh=>lift ((eX hk h5 hE hth hus).trans (if_neg h)) _ rfl) λh=>lift ((eX hk h5 hE hth hus).trans (if_pos h)) _ rfl
def KW (a0:aB) (a1:aI) (a2:iII×iII×bN×a8×bS×aQ×bE):List T:=[aH true aD a0,aH true aK a1,aH true aM (7,a2)]
noncomputable def ASB:Env:=Env.of [(93,.pure cH),(195,.pure SC),(197,.pure C6),(69,.pure fJ),(198,.pure RU),(65,.pure cW)]
def A9A:FuncId->Hint:=λ_=>bA
def A32:aU Tryz.prog ASB:=.cons jJ (.cons BCJ (.cons AJ9 (.cons oE (.cons BB1 (.cons kH (.nil _))))))
def AT8(a0:aB)(a1:aI)(a2:iII×iII×bN×a8×bS×aQ×bE)(R:T->Prop):Prop:=aJ [(true,aM)] (SC [(aH true aM (7,a2))]) λ(y0:aV)=>aJ BMF (cH [(aH true aM (7,a2)), aH true aM y0]) λ(y1:Bool)=>aC (!y1) (R (T.b9 BMG)) (aJ [(true,bC),(false,Sy.bool)] (C6 [aH true aD a0,pPQ a2.2.2.2.2.1.1]) λ(y2:bS×Bool)=>aC y2.2 (R (T.b9 BMM)) (aJ [(true,aD)] (fJ [aH true aD a0]) λ(y3:aB)=>aJ [(true,aD)] (RU [aH true aD y3, (aH true aM (7,a2))]) λ(y4:aB)=>BMW y4 a1 R))
def AT9 ( a0 a1 a2 R):eJ b8 Tryz.prog ASB A9A 8 66 (KW a0 a1 a2) R=AT8 a0 a1 a2 R:=by kernel_rfl
noncomputable def AIW (x:o4):Option T:=match okX x.1 (7,x.2.2) with
 | true=>some (Sh.enc [(true,aD),(false,.int .i64)] (bI x.1 x.2.1 (7,x.2.2)))
 | false=>none
def ALZ (x y:o4) (h:KW x.1 x.2.1 x.2.2=KW y.1 y.2.1 y.2.2):x=y:=lQ 7 x y h
noncomputable def AYL:List T->Option (T):=gA (λ(x:aB×aI×iII×iII×bN×a8×bS×aQ×bE)=>KW x.1 x.2.1 x.2.2) AIW
def AYM (a0:aB) (a1:aI) (a2:iII×iII×bN×a8×bS×aQ×bE):AYL (KW a0 a1 a2)=AIW (a0,a1,a2):=fP (A:=(λ(x:aB×aI×iII×iII×bN×a8×bS×aQ×bE)=>KW x.1 x.2.1 x.2.2)) ALZ (a0,a1,a2)
def BDZ (h:∀ (a0:aB) (a1:aI) (a2:iII×iII×bN×a8×bS×aQ×bE) (r:T),AIW (a0,a1,a2)=some r->(∀ t∈KW a0 a1 a2,Bd t)->AT8 a0 a1 a2 (λy=>y=r)):aP Tryz.prog 66 AYL :=
 cU (E:=ASB) (Hs:=A9A) A32 aZ a7 (aO rfl) 8 ⟨_,_,Tryz.func66,rfl⟩ λx r h1 h2=>by
  rw[AT9];exact h x.1 x.2.1 x.2.2 r h1 h2
def BBU:aP Tryz.prog 66 AYL:=BDZ λd m x r h hb=>by
 clear hb;obtain ⟨hp,rfl⟩:=j6 h;clear h;obtain ⟨hc,ho1,ho2⟩:=lT hp;have c:=dY hc;have is:∀ {a:aB×Int},bI d m (7,x)=a->Sh.enc [(true,aD),(false,.int .i64)] a=Sh.enc [(true,aD),(false,.int .i64)] (bI d m (7,x)):=λh=>by rw[h]
 have hk:(1:Int)<=((7,x):aV).1/\((7,x):aV).1<=12:=by dsimp only;omega
 have h5:¬ ((7,x):aV).1=5:=by dsimp only;omega
 have lift:∀ {a:aB×Int},bI d m (7,x)=a->∀ v,v=Sh.enc [(true,aD),(false,.int .i64)] a->v=Sh.enc [(true,aD),(false,.int .i64)] (bI d m (7,x)):=λh v hv=>by rw[h];exact hv
 unfold AT8 BMW BMM BMG BMF BME BMC;have z1:SC [aH true aM (7,x)]=some (Sh.enc [(true,aM)] (bW (7,x))):=(AY9 ..).trans rfl;refine aG (s:=[(true,aM)]) (y:=bW (7,x)) z1 ?_;have z2:cH [aH true aM (7,x),aH true aM (bW (7,x))]=some (Sh.enc lB (l8 (7,x) (bW (7,x)))):=fK ..;refine aG (s:=lB) (y:=l8 (7,x) (bW (7,x))) z2 ?_;refine iE (λh=>lift (lR hk h) _ rfl) λhE=>?_;refine aG (s:=[(true,bC),(false,.bool)]) (y:=found iG (o9 d (pD (7,x)).1)) (SF ..) ?_;have ht:dQ d (7,x)=(found iG (o9 d (pD (7,x)).1)).2:=(gY ..).symm;have hus:kX d (7,x)=false:=rfl;refine wU (λh=>lift (tL hk h5 hE rfl (ht.trans h)) _ rfl) λh=>?_;have hth:dQ d (7,x) = !kS (7,x):=ht.trans h;refine aG (s:=[(true,aD)]) (y:=d) ((gZ ..).trans (dO hc)) ?_;have z3:RU [aH true aD d,aH true aM (7,x)]=some (Sh.enc [(true,aD)] (lE d (7,x))):=(AYV ..).trans (dO hc);refine aG (s:=[(true,aD)]) (y:=lE d (7,x)) z3 ?_;refine aG (s:=[(false,.int .i64)]) (y:=gQ (lE d (7,x)) m) (gC ..) ?_;exact kU (λh=>lift ((eX hk h5 hE hth hus).trans (if_neg h)) _ rfl) λh=>lift ((eX hk h5 hE hth hus).trans (if_pos h)) _ rfl
def KY (a0:aB) (a1:aI) (a2:iII×iII×bN×a8×bS×aQ×bE):List T:=[aH true aD a0,aH true aK a1,aH true aM (9,a2)]
noncomputable def ASD:Env:=Env.of [(93,.pure cH),(215,.pure SE),(217,.pure C4),(69,.pure fJ),(218,.pure RW),(65,.pure cW)]
def A9C:FuncId->Hint:=λ_=>bA
def A34:aU Tryz.prog ASD:=.cons jJ (.cons BCL (.cons AJ6 (.cons oE (.cons BB3 (.cons kH (.nil _))))))
def AUC(a0:aB)(a1:aI)(a2:iII×iII×bN×a8×bS×aQ×bE)(R:T->Prop):Prop:=aJ [(true,aM)] (SE [(aH true aM (9,a2))]) λ(y0:aV)=>aJ BMF (cH [(aH true aM (9,a2)), aH true aM y0]) λ(y1:Bool)=>aC (!y1) (R (T.b9 BMG)) (aJ [(true,aF),(false,Sy.bool)] (C4 [aH true aD a0,pPQ a2.2.2.2.2.2.1.1]) λ(y2:aQ×Bool)=>aC y2.2 (R (T.b9 BMM)) (aJ [(true,aD)] (fJ [aH true aD a0]) λ(y3:aB)=>aJ [(true,aD)] (RW [aH true aD y3, (aH true aM (9,a2))]) λ(y4:aB)=>BMW y4 a1 R))
def AUD ( a0 a1 a2 R):eJ b8 Tryz.prog ASD A9C 8 66 (KY a0 a1 a2) R=AUC a0 a1 a2 R:=by kernel_rfl
noncomputable def AIY (x:o4):Option T:=match okX x.1 (9,x.2.2) with
 | true=>some (Sh.enc [(true,aD),(false,.int .i64)] (bI x.1 x.2.1 (9,x.2.2)))
 | false=>none
def AL1 (x y:o4) (h:KY x.1 x.2.1 x.2.2=KY y.1 y.2.1 y.2.2):x=y:=lQ 9 x y h
noncomputable def AYP:List T->Option (T):=gA (λ(x:aB×aI×iII×iII×bN×a8×bS×aQ×bE)=>KY x.1 x.2.1 x.2.2) AIY
def AYQ (a0:aB) (a1:aI) (a2:iII×iII×bN×a8×bS×aQ×bE):AYP (KY a0 a1 a2)=AIY (a0,a1,a2):=fP (A:=(λ(x:aB×aI×iII×iII×bN×a8×bS×aQ×bE)=>KY x.1 x.2.1 x.2.2)) AL1 (a0,a1,a2)
def BD1 (h:∀ (a0:aB) (a1:aI) (a2:iII×iII×bN×a8×bS×aQ×bE) (r:T),AIY (a0,a1,a2)=some r->(∀ t∈KY a0 a1 a2,Bd t)->AUC a0 a1 a2 (λy=>y=r)):aP Tryz.prog 66 AYP :=
 cU (E:=ASD) (Hs:=A9C) A34 aZ a7 (aO rfl) 8 ⟨_,_,Tryz.func66,rfl⟩ λx r h1 h2=>by
  rw[AUD];exact h x.1 x.2.1 x.2.2 r h1 h2
def BBW:aP Tryz.prog 66 AYP:=BD1 λd m x r h hb=>by
 clear hb;obtain ⟨hp,rfl⟩:=j6 h;clear h;obtain ⟨hc,ho1,ho2⟩:=lT hp;have c:=dY hc;have is:∀ {a:aB×Int},bI d m (9,x)=a->Sh.enc [(true,aD),(false,.int .i64)] a=Sh.enc [(true,aD),(false,.int .i64)] (bI d m (9,x)):=λh=>by rw[h]
 have hk:(1:Int)<=((9,x):aV).1/\((9,x):aV).1<=12:=by dsimp only;omega
 have h5:¬ ((9,x):aV).1=5:=by dsimp only;omega
 have lift:∀ {a:aB×Int},bI d m (9,x)=a->∀ v,v=Sh.enc [(true,aD),(false,.int .i64)] a->v=Sh.enc [(true,aD),(false,.int .i64)] (bI d m (9,x)):=λh v hv=>by rw[h];exact hv
 unfold AUC BMW BMM BMG BMF BME BMC;have z1:SE [aH true aM (9,x)]=some (Sh.enc [(true,aM)] (bW (9,x))):=(AZB ..).trans rfl;refine aG (s:=[(true,aM)]) (y:=bW (9,x)) z1 ?_;have z2:cH [aH true aM (9,x),aH true aM (bW (9,x))]=some (Sh.enc lB (l8 (9,x) (bW (9,x)))):=fK ..;refine aG (s:=lB) (y:=l8 (9,x) (bW (9,x))) z2 ?_;refine iE (λh=>lift (lR hk h) _ rfl) λhE=>?_;refine aG (s:=[(true,aF),(false,.bool)]) (y:=found noPack (iO d (hU (9,x)).1)) ((R1 ..).trans (ACE _ c.HJ)) ?_;have ht:dQ d (9,x)=(found noPack (iO d (hU (9,x)).1)).2:=(gY ..).symm;have hus:kX d (9,x)=false:=rfl;refine wU (λh=>lift (tL hk h5 hE rfl (ht.trans h)) _ rfl) λh=>?_;have hth:dQ d (9,x) = !kS (9,x):=ht.trans h;refine aG (s:=[(true,aD)]) (y:=d) ((gZ ..).trans (dO hc)) ?_;have z3:RW [aH true aD d,aH true aM (9,x)]=some (Sh.enc [(true,aD)] (lE d (9,x))):=(AYX ..).trans (dO (by rw[hc,ho2];rfl));refine aG (s:=[(true,aD)]) (y:=lE d (9,x)) z3 ?_;refine aG (s:=[(false,.int .i64)]) (y:=gQ (lE d (9,x)) m) (gC ..) ?_;exact kU (λh=>lift ((eX hk h5 hE hth hus).trans (if_neg h)) _ rfl) λh=>lift ((eX hk h5 hE hth hus).trans (if_pos h)) _ rfl
def KR (a0:aB) (a1:aI) (a2:iII×iII×bN×a8×bS×aQ×bE):List T:=[aH true aD a0,aH true aK a1,aH true aM (2,a2)]
noncomputable def AR6:Env:=Env.of [(93,.pure cH),(155,.pure R6),(149,.pure C3),(138,.pure AE),(69,.pure fJ),(157,.pure RQ),(65,.pure cW)]
def A85:FuncId->Hint:=λ_=>bA
def A3X:aU Tryz.prog AR6:=.cons jJ (.cons BCE (.cons AJ5 (.cons AX3 (.cons oE (.cons BBY (.cons kH (.nil _)))))))
def BMI:List T:=[T.agg BMC, pPP 8]
def BML:List T:=[T.agg BMC, pPP 34]
def ATY(a0:aB)(a1:aI)(a2:iII×iII×bN×a8×bS×aQ×bE)(R:T->Prop):Prop:=aJ [(true,aM)] (R6 [(aH true aM (2,a2))]) λ(y0:aV)=>aJ BMF (cH [(aH true aM (2,a2)), aH true aM y0]) λ(y1:Bool)=>aC (!y1) (R (T.b9 BMG)) (aJ [(true,bB),(false,Sy.bool)] (C3 [aH true aD a0,pPQ a2.1]) λ(y2:bN×Bool)=>aC (!y2.2) (R (T.b9 BMI)) (aJ BMF (AE [aH true aD a0, (aH true aM (2,a2))]) λ(y3:Bool)=>aC y3 (R (T.b9 BML)) (aJ [(true,aD)] (fJ [aH true aD a0]) λ(y4:aB)=>aJ [(true,aD)] (RQ [aH true aD y4, (aH true aM (2,a2))]) λ(y5:aB)=>BMW y5 a1 R)))
def ATZ ( a0 a1 a2 R):eJ b8 Tryz.prog AR6 A85 8 66 (KR a0 a1 a2) R=ATY a0 a1 a2 R:=by kernel_rfl
noncomputable def AIR (x:o4):Option T:=match okX x.1 (2,x.2.2) with
 | true=>some (Sh.enc [(true,aD),(false,.int .i64)] (bI x.1 x.2.1 (2,x.2.2)))
 | false=>none
def ALU (x y:o4) (h:KR x.1 x.2.1 x.2.2=KR y.1 y.2.1 y.2.2):x=y:=lQ 2 x y h
noncomputable def AYB:List T->Option (T):=gA (λ(x:aB×aI×iII×iII×bN×a8×bS×aQ×bE)=>KR x.1 x.2.1 x.2.2) AIR
def AYC (a0:aB) (a1:aI) (a2:iII×iII×bN×a8×bS×aQ×bE):AYB (KR a0 a1 a2)=AIR (a0,a1,a2):=fP (A:=(λ(x:aB×aI×iII×iII×bN×a8×bS×aQ×bE)=>KR x.1 x.2.1 x.2.2)) ALU (a0,a1,a2)
def BDU (h:∀ (a0:aB) (a1:aI) (a2:iII×iII×bN×a8×bS×aQ×bE) (r:T),AIR (a0,a1,a2)=some r->(∀ t∈KR a0 a1 a2,Bd t)->ATY a0 a1 a2 (λy=>y=r)):aP Tryz.prog 66 AYB :=
 cU (E:=AR6) (Hs:=A85) A3X aZ a7 (aO rfl) 8 ⟨_,_,Tryz.func66,rfl⟩ λx r h1 h2=>by
  rw[ATZ];exact h x.1 x.2.1 x.2.2 r h1 h2
def BBP:aP Tryz.prog 66 AYB:=BDU λd m x r h hb=>by
 clear hb;obtain ⟨hp,rfl⟩:=j6 h;clear h;obtain ⟨hc,ho1,ho2⟩:=lT hp;have c:=dY hc;have is:∀ {a:aB×Int},bI d m (2,x)=a->Sh.enc [(true,aD),(false,.int .i64)] a=Sh.enc [(true,aD),(false,.int .i64)] (bI d m (2,x)):=λh=>by rw[h]
 have hk:(1:Int)<=((2,x):aV).1/\((2,x):aV).1<=12:=by dsimp only;omega
 have h5:¬ ((2,x):aV).1=5:=by dsimp only;omega
 have lift:∀ {a:aB×Int},bI d m (2,x)=a->∀ v,v=Sh.enc [(true,aD),(false,.int .i64)] a->v=Sh.enc [(true,aD),(false,.int .i64)] (bI d m (2,x)):=λh v hv=>by rw[h];exact hv
 unfold ATY BMW BML BMI BMG BMF BME BMC;have z1:R6 [aH true aM (2,x)]=some (Sh.enc [(true,aM)] (bW (2,x))):=(AY4 ..).trans rfl;refine aG (s:=[(true,aM)]) (y:=bW (2,x)) z1 ?_;have z2:cH [aH true aM (2,x),aH true aM (bW (2,x))]=some (Sh.enc lB (l8 (2,x) (bW (2,x)))):=fK ..;refine aG (s:=lB) (y:=l8 (2,x) (bW (2,x))) z2 ?_;refine iE (λh=>lift (lR hk h) _ rfl) λhE=>?_;refine aG (s:=[(true,bB),(false,.bool)]) (y:=found iF (eG d (fE (2,x)))) (R0 ..) ?_;have ht:dQ d (2,x)=(found iF (eG d (fE (2,x)))).2:=(gY ..).symm;refine iE (λh=>lift (tK hk h5 hE rfl (ht.trans h)) _ rfl) λh=>?_;have hth:dQ d (2,x) = !kS (2,x):=ht.trans h;have z4:AE [aH true aD d,aH true aM (2,x)]=some (Sh.enc lB (kX d (2,x))):=(AG1 ..).trans (dO hc);refine aG (s:=lB) (y:=kX d (2,x)) z4 ?_;refine wU (λh=>lift (DT hk h5 hE hth h) _ rfl) λhus=>?_;refine aG (s:=[(true,aD)]) (y:=d) ((gZ ..).trans (dO hc)) ?_;have z3:RQ [aH true aD d,aH true aM (2,x)]=some (Sh.enc [(true,aD)] (lE d (2,x))):=(AYS ..).trans (dO hc);refine aG (s:=[(true,aD)]) (y:=lE d (2,x)) z3 ?_;refine aG (s:=[(false,.int .i64)]) (y:=gQ (lE d (2,x)) m) (gC ..) ?_;exact kU (λh=>lift ((eX hk h5 hE hth hus).trans (if_neg h)) _ rfl) λh=>lift ((eX hk h5 hE hth hus).trans (if_pos h)) _ rfl
def KT (a0:aB) (a1:aI) (a2:iII×iII×bN×a8×bS×aQ×bE):List T:=[aH true aD a0,aH true aK a1,aH true aM (4,a2)]
noncomputable def AR8:Env:=Env.of [(93,.pure cH),(174,.pure R9),(94,.pure lS),(162,.pure AG),(69,.pure fJ),(176,.pure RT),(65,.pure cW)]
def A87:FuncId->Hint:=λ_=>bA
def A3Z:aU Tryz.prog AR8:=.cons jJ (.cons BCG (.cons D6 (.cons AX5 (.cons oE (.cons BB0 (.cons kH (.nil _)))))))
def AT2(a0:aB)(a1:aI)(a2:iII×iII×bN×a8×bS×aQ×bE)(R:T->Prop):Prop:=aJ [(true,aM)] (R9 [(aH true aM (4,a2))]) λ(y0:aV)=>aJ BMF (cH [(aH true aM (4,a2)), aH true aM y0]) λ(y1:Bool)=>aC (!y1) (R (T.b9 BMG)) (aJ BMN (lS [aH true aD a0,pPQ a2.1]) λ(y2:a8×Bool)=>aC (!y2.2) (R (T.b9 BMI)) (aJ BMF (AG [aH true aD a0, (aH true aM (4,a2))]) λ(y3:Bool)=>aC y3 (R (T.b9 BML)) (aJ [(true,aD)] (fJ [aH true aD a0]) λ(y4:aB)=>aJ [(true,aD)] (RT [aH true aD y4, (aH true aM (4,a2))]) λ(y5:aB)=>BMW y5 a1 R)))
def AT3 ( a0 a1 a2 R):eJ b8 Tryz.prog AR8 A87 8 66 (KT a0 a1 a2) R=AT2 a0 a1 a2 R:=by kernel_rfl
noncomputable def AIT (x:o4):Option T:=match okX x.1 (4,x.2.2) with
 | true=>some (Sh.enc [(true,aD),(false,.int .i64)] (bI x.1 x.2.1 (4,x.2.2)))
 | false=>none
def ALW (x y:o4) (h:KT x.1 x.2.1 x.2.2=KT y.1 y.2.1 y.2.2):x=y:=lQ 4 x y h
noncomputable def AYF:List T->Option (T):=gA (λ(x:aB×aI×iII×iII×bN×a8×bS×aQ×bE)=>KT x.1 x.2.1 x.2.2) AIT
def AYG (a0:aB) (a1:aI) (a2:iII×iII×bN×a8×bS×aQ×bE):AYF (KT a0 a1 a2)=AIT (a0,a1,a2):=fP (A:=(λ(x:aB×aI×iII×iII×bN×a8×bS×aQ×bE)=>KT x.1 x.2.1 x.2.2)) ALW (a0,a1,a2)
def BDW (h:∀ (a0:aB) (a1:aI) (a2:iII×iII×bN×a8×bS×aQ×bE) (r:T),AIT (a0,a1,a2)=some r->(∀ t∈KT a0 a1 a2,Bd t)->AT2 a0 a1 a2 (λy=>y=r)):aP Tryz.prog 66 AYF :=
 cU (E:=AR8) (Hs:=A87) A3Z aZ a7 (aO rfl) 8 ⟨_,_,Tryz.func66,rfl⟩ λx r h1 h2=>by
  rw[AT3];exact h x.1 x.2.1 x.2.2 r h1 h2
def BBR:aP Tryz.prog 66 AYF:=BDW λd m x r h hb=>by
 clear hb;obtain ⟨hp,rfl⟩:=j6 h;clear h;obtain ⟨hc,ho1,ho2⟩:=lT hp;have c:=dY hc;have is:∀ {a:aB×Int},bI d m (4,x)=a->Sh.enc [(true,aD),(false,.int .i64)] a=Sh.enc [(true,aD),(false,.int .i64)] (bI d m (4,x)):=λh=>by rw[h]
 have hk:(1:Int)<=((4,x):aV).1/\((4,x):aV).1<=12:=by dsimp only;omega
 have h5:¬ ((4,x):aV).1=5:=by dsimp only;omega
 have lift:∀ {a:aB×Int},bI d m (4,x)=a->∀ v,v=Sh.enc [(true,aD),(false,.int .i64)] a->v=Sh.enc [(true,aD),(false,.int .i64)] (bI d m (4,x)):=λh v hv=>by rw[h];exact hv
 unfold AT2 BMW BMN BML BMI BMG BMF BME BMC;have z1:R9 [aH true aM (4,x)]=some (Sh.enc [(true,aM)] (bW (4,x))):=(AY6 ..).trans rfl;refine aG (s:=[(true,aM)]) (y:=bW (4,x)) z1 ?_;have z2:cH [aH true aM (4,x),aH true aM (bW (4,x))]=some (Sh.enc lB (l8 (4,x) (bW (4,x)))):=fK ..;refine aG (s:=lB) (y:=l8 (4,x) (bW (4,x))) z2 ?_;refine iE (λh=>lift (lR hk h) _ rfl) λhE=>?_;refine aG (s:=[(true,aN),(false,.bool)]) (y:=found eN (partOf d (fE (4,x)))) ((qV ..).trans (by unfold lM;dsimp only;rw[c.JH];rfl)) ?_;have ht:dQ d (4,x)=(found eN (partOf d (fE (4,x)))).2:=(gY ..).symm;refine iE (λh=>lift (tK hk h5 hE rfl (ht.trans h)) _ rfl) λh=>?_;have hth:dQ d (4,x) = !kS (4,x):=ht.trans h;have z4:AG [aH true aD d,aH true aM (4,x)]=some (Sh.enc lB (kX d (4,x))):=(AG3 ..).trans (dO hc);refine aG (s:=lB) (y:=kX d (4,x)) z4 ?_;refine wU (λh=>lift (DT hk h5 hE hth h) _ rfl) λhus=>?_;refine aG (s:=[(true,aD)]) (y:=d) ((gZ ..).trans (dO hc)) ?_;have z3:RT [aH true aD d,aH true aM (4,x)]=some (Sh.enc [(true,aD)] (lE d (4,x))):=(AYU ..).trans (dO hc);refine aG (s:=[(true,aD)]) (y:=lE d (4,x)) z3 ?_;refine aG (s:=[(false,.int .i64)]) (y:=gQ (lE d (4,x)) m) (gC ..) ?_;exact kU (λh=>lift ((eX hk h5 hE hth hus).trans (if_neg h)) _ rfl) λh=>lift ((eX hk h5 hE hth hus).trans (if_pos h)) _ rfl
def KX (a0:aB) (a1:aI) (a2:iII×iII×bN×a8×bS×aQ×bE):List T:=[aH true aD a0,aH true aK a1,aH true aM (8,a2)]
noncomputable def ASC:Env:=Env.of [(93,.pure cH),(203,.pure SD),(197,.pure C6),(183,.pure jL),(69,.pure fJ),(205,.pure RV),(65,.pure cW)]
def A9B:FuncId->Hint:=λ_=>bA
def A33:aU Tryz.prog ASC:=.cons jJ (.cons BCK (.cons AJ9 (.cons tV (.cons oE (.cons BB2 (.cons kH (.nil _)))))))
def AUA(a0:aB)(a1:aI)(a2:iII×iII×bN×a8×bS×aQ×bE)(R:T->Prop):Prop:=aJ [(true,aM)] (SD [(aH true aM (8,a2))]) λ(y0:aV)=>aJ BMF (cH [(aH true aM (8,a2)), aH true aM y0]) λ(y1:Bool)=>aC (!y1) (R (T.b9 BMG)) (aJ [(true,bC),(false,Sy.bool)] (C6 [aH true aD a0,pPQ a2.1]) λ(y2:bS×Bool)=>aC (!y2.2) (R (T.b9 BMI)) (aJ BMF (jL [aH true aD a0, (aH true aM (8,a2))]) λ(y3:Bool)=>aC y3 (R (T.b9 BML)) (aJ [(true,aD)] (fJ [aH true aD a0]) λ(y4:aB)=>aJ [(true,aD)] (RV [aH true aD y4, (aH true aM (8,a2))]) λ(y5:aB)=>BMW y5 a1 R)))
def AUB ( a0 a1 a2 R):eJ b8 Tryz.prog ASC A9B 8 66 (KX a0 a1 a2) R=AUA a0 a1 a2 R:=by kernel_rfl
noncomputable def AIX (x:o4):Option T:=match okX x.1 (8,x.2.2) with
 | true=>some (Sh.enc [(true,aD),(false,.int .i64)] (bI x.1 x.2.1 (8,x.2.2)))
 | false=>none
def AL0 (x y:o4) (h:KX x.1 x.2.1 x.2.2=KX y.1 y.2.1 y.2.2):x=y:=lQ 8 x y h
noncomputable def AYN:List T->Option (T):=gA (λ(x:aB×aI×iII×iII×bN×a8×bS×aQ×bE)=>KX x.1 x.2.1 x.2.2) AIX
def AYO (a0:aB) (a1:aI) (a2:iII×iII×bN×a8×bS×aQ×bE):AYN (KX a0 a1 a2)=AIX (a0,a1,a2):=fP (A:=(λ(x:aB×aI×iII×iII×bN×a8×bS×aQ×bE)=>KX x.1 x.2.1 x.2.2)) AL0 (a0,a1,a2)
def BD0 (h:∀ (a0:aB) (a1:aI) (a2:iII×iII×bN×a8×bS×aQ×bE) (r:T),AIX (a0,a1,a2)=some r->(∀ t∈KX a0 a1 a2,Bd t)->AUA a0 a1 a2 (λy=>y=r)):aP Tryz.prog 66 AYN :=
 cU (E:=ASC) (Hs:=A9B) A33 aZ a7 (aO rfl) 8 ⟨_,_,Tryz.func66,rfl⟩ λx r h1 h2=>by
  rw[AUB];exact h x.1 x.2.1 x.2.2 r h1 h2
def BBV:aP Tryz.prog 66 AYN:=BD0 λd m x r h hb=>by
 clear hb;obtain ⟨hp,rfl⟩:=j6 h;clear h;obtain ⟨hc,ho1,ho2⟩:=lT hp;have c:=dY hc;have is:∀ {a:aB×Int},bI d m (8,x)=a->Sh.enc [(true,aD),(false,.int .i64)] a=Sh.enc [(true,aD),(false,.int .i64)] (bI d m (8,x)):=λh=>by rw[h]
 have hk:(1:Int)<=((8,x):aV).1/\((8,x):aV).1<=12:=by dsimp only;omega
 have h5:¬ ((8,x):aV).1=5:=by dsimp only;omega
 have lift:∀ {a:aB×Int},bI d m (8,x)=a->∀ v,v=Sh.enc [(true,aD),(false,.int .i64)] a->v=Sh.enc [(true,aD),(false,.int .i64)] (bI d m (8,x)):=λh v hv=>by rw[h];exact hv
 unfold AUA BMW BML BMI BMG BMF BME BMC;have z1:SD [aH true aM (8,x)]=some (Sh.enc [(true,aM)] (bW (8,x))):=(AZA ..).trans rfl;refine aG (s:=[(true,aM)]) (y:=bW (8,x)) z1 ?_;have z2:cH [aH true aM (8,x),aH true aM (bW (8,x))]=some (Sh.enc lB (l8 (8,x) (bW (8,x)))):=fK ..;refine aG (s:=lB) (y:=l8 (8,x) (bW (8,x))) z2 ?_;refine iE (λh=>lift (lR hk h) _ rfl) λhE=>?_;refine aG (s:=[(true,bC),(false,.bool)]) (y:=found iG (o9 d (fE (8,x)))) (SF ..) ?_;have ht:dQ d (8,x)=(found iG (o9 d (fE (8,x)))).2:=(gY ..).symm;refine iE (λh=>lift (tK hk h5 hE rfl (ht.trans h)) _ rfl) λh=>?_;have hth:dQ d (8,x) = !kS (8,x):=ht.trans h;have z4:jL [aH true aD d,aH true aM (8,x)]=some (Sh.enc lB (kX d (8,x))):=(I8 ..).trans (rfl);refine aG (s:=lB) (y:=kX d (8,x)) z4 ?_;refine wU (λh=>lift (DT hk h5 hE hth h) _ rfl) λhus=>?_;refine aG (s:=[(true,aD)]) (y:=d) ((gZ ..).trans (dO hc)) ?_;have z3:RV [aH true aD d,aH true aM (8,x)]=some (Sh.enc [(true,aD)] (lE d (8,x))):=(AYW ..).trans (dO hc);refine aG (s:=[(true,aD)]) (y:=lE d (8,x)) z3 ?_;refine aG (s:=[(false,.int .i64)]) (y:=gQ (lE d (8,x)) m) (gC ..) ?_;exact kU (λh=>lift ((eX hk h5 hE hth hus).trans (if_neg h)) _ rfl) λh=>lift ((eX hk h5 hE hth hus).trans (if_pos h)) _ rfl
def CC (a0:aB) (a1:aI) (a2:iII×iII×bN×a8×bS×aQ×bE):List T:=[aH true aD a0,aH true aK a1,aH true aM (10,a2)]
noncomputable def ADG:Env:=Env.of [(93,.pure cH),(224,.pure G1),(217,.pure C4),(210,.pure AF),(69,.pure fJ),(226,.pure G0),(65,.pure cW)]
def AVH:FuncId->Hint:=λ_=>bA
def ATA:aU Tryz.prog ADG:=.cons jJ (.cons A6Z (.cons AJ6 (.cons AX4 (.cons oE (.cons A6L (.cons kH (.nil _)))))))
def AEJ(a0:aB)(a1:aI)(a2:iII×iII×bN×a8×bS×aQ×bE)(R:T->Prop):Prop:=aJ [(true,aM)] (G1 [(aH true aM (10,a2))]) λ(y0:aV)=>aJ BMF (cH [(aH true aM (10,a2)), aH true aM y0]) λ(y1:Bool)=>aC (!y1) (R (T.b9 BMG)) (aJ [(true,aF),(false,Sy.bool)] (C4 [aH true aD a0,pPQ a2.1]) λ(y2:aQ×Bool)=>aC (!y2.2) (R (T.b9 BMI)) (aJ BMF (AF [aH true aD a0, (aH true aM (10,a2))]) λ(y3:Bool)=>aC y3 (R (T.b9 BML)) (aJ [(true,aD)] (fJ [aH true aD a0]) λ(y4:aB)=>aJ [(true,aD)] (G0 [aH true aD y4, (aH true aM (10,a2))]) λ(y5:aB)=>BMW y5 a1 R)))
def AM2 ( a0 a1 a2 R):eJ b8 Tryz.prog ADG AVH 8 66 (CC a0 a1 a2) R=AEJ a0 a1 a2 R:=by kernel_rfl
noncomputable def WQ (x:o4):Option T:=match okX x.1 (10,x.2.2) with
 | true=>some (Sh.enc [(true,aD),(false,.int .i64)] (bI x.1 x.2.1 (10,x.2.2)))
 | false=>none
def AC9 (x y:o4) (h:CC x.1 x.2.1 x.2.2=CC y.1 y.2.1 y.2.2):x=y:=lQ 10 x y h
noncomputable def AGJ:List T->Option (T):=gA (λ(x:aB×aI×iII×iII×bN×a8×bS×aQ×bE)=>CC x.1 x.2.1 x.2.2) WQ
def AO7 (a0:aB) (a1:aI) (a2:iII×iII×bN×a8×bS×aQ×bE):AGJ (CC a0 a1 a2)=WQ (a0,a1,a2):=fP (A:=(λ(x:aB×aI×iII×iII×bN×a8×bS×aQ×bE)=>CC x.1 x.2.1 x.2.2)) AC9 (a0,a1,a2)
def A7V (h:∀ (a0:aB) (a1:aI) (a2:iII×iII×bN×a8×bS×aQ×bE) (r:T),WQ (a0,a1,a2)=some r->(∀ t∈CC a0 a1 a2,Bd t)->AEJ a0 a1 a2 (λy=>y=r)):aP Tryz.prog 66 AGJ :=
 cU (E:=ADG) (Hs:=AVH) ATA aZ a7 (aO rfl) 8 ⟨_,_,Tryz.func66,rfl⟩ λx r h1 h2=>by
  rw[AM2];exact h x.1 x.2.1 x.2.2 r h1 h2
def A6B:aP Tryz.prog 66 AGJ:=A7V λd m x r h hb=>by
 clear hb;obtain ⟨hp,rfl⟩:=j6 h;clear h;obtain ⟨hc,ho1,ho2⟩:=lT hp;have c:=dY hc;have is:∀ {a:aB×Int},bI d m (10,x)=a->Sh.enc [(true,aD),(false,.int .i64)] a=Sh.enc [(true,aD),(false,.int .i64)] (bI d m (10,x)):=λh=>by rw[h]
 have hk:(1:Int)<=((10,x):aV).1/\((10,x):aV).1<=12:=by dsimp only;omega
 have h5:¬ ((10,x):aV).1=5:=by dsimp only;omega
 have lift:∀ {a:aB×Int},bI d m (10,x)=a->∀ v,v=Sh.enc [(true,aD),(false,.int .i64)] a->v=Sh.enc [(true,aD),(false,.int .i64)] (bI d m (10,x)):=λh v hv=>by rw[h];exact hv
 unfold AEJ BMW BML BMI BMG BMF BME BMC;have z1:G1 [aH true aM (10,x)]=some (Sh.enc [(true,aM)] (bW (10,x))):=(APK ..).trans rfl;refine aG (s:=[(true,aM)]) (y:=bW (10,x)) z1 ?_;have z2:cH [aH true aM (10,x),aH true aM (bW (10,x))]=some (Sh.enc lB (l8 (10,x) (bW (10,x)))):=fK ..;refine aG (s:=lB) (y:=l8 (10,x) (bW (10,x))) z2 ?_;refine iE (λh=>lift (lR hk h) _ rfl) λhE=>?_;refine aG (s:=[(true,aF),(false,.bool)]) (y:=found noPack (iO d (fE (10,x)))) ((R1 ..).trans (ACE _ c.HJ)) ?_;have ht:dQ d (10,x)=(found noPack (iO d (fE (10,x)))).2:=(gY ..).symm;refine iE (λh=>lift (tK hk h5 hE rfl (ht.trans h)) _ rfl) λh=>?_;have hth:dQ d (10,x) = !kS (10,x):=ht.trans h;have z4:AF [aH true aD d,aH true aM (10,x)]=some (Sh.enc lB (kX d (10,x))):=(AG2 ..).trans (dO hc);refine aG (s:=lB) (y:=kX d (10,x)) z4 ?_;refine wU (λh=>lift (DT hk h5 hE hth h) _ rfl) λhus=>?_;refine aG (s:=[(true,aD)]) (y:=d) ((gZ ..).trans (dO hc)) ?_;have z3:G0 [aH true aD d,aH true aM (10,x)]=some (Sh.enc [(true,aD)] (lE d (10,x))):=(APG ..).trans (dO hc);refine aG (s:=[(true,aD)]) (y:=lE d (10,x)) z3 ?_;refine aG (s:=[(false,.int .i64)]) (y:=gQ (lE d (10,x)) m) (gC ..) ?_;exact kU (λh=>lift ((eX hk h5 hE hth hus).trans (if_neg h)) _ rfl) λh=>lift ((eX hk h5 hE hth hus).trans (if_pos h)) _ rfl
def ifC {p q s:Prop} {i:Decidable p} {j:Decidable q} {k:Decidable s} {A B:Prop} (h1:p/\q/\s->A) (h2:¬ (p/\q/\s)->B):aC (@decide p i&&(@decide q j&&(@decide s k&&true))) A B:=by
 by_cases h:p/\q/\s
 ·rw[ai h.1,ai h.2.1,ai h.2.2];exact h1 h
 ·have:(@decide p i&&(@decide q j&&(@decide s k&&true)))=false:=by
   rw[Bool.eq_false_iff];intro e;simp only[ac,ah,and_true] at e;exact h e
  rw[this];exact h2 h
def AL {a b:bE}:(a.1=b.1/\a.2.1=b.2.1/\a.2.2=b.2.2)↔a=b:=by
 simp only[Prod.ext_iff]
def CD (a0:aB) (a1:aI) (a2:iII×iII×bN×a8×bS×aQ×bE):List T:=[aH true aD a0,aH true aK a1,aH true aM (11,a2)]
noncomputable def ADH:Env:=Env.of [(93,.pure cH),(230,.pure vH),(183,.pure jL),(69,.pure fJ),(234,.pure qU),(105,.dup 3 40),(298,.grow 3 kK),(299,.grow 3 AA),(65,.pure cW)]
def AVI:FuncId->Hint:=cA 278 [(2,.inv [.val 8 false (.int .i64)])] (cA 294 [(2,.inv [.val 8 false (.int .i64)])] (λ_=>bA))
def ATB:aU Tryz.prog ADH:=.cons jJ (.cons AJ8 (.cons tV (.cons oE (.cons RE (aU.cons (x:=.dup 3 40) CU (.cons NJ (.cons NI (.cons kH (.nil _)))))))))
def BMD:List T:=[pPQ ({data:=#[]}),T.sl false [], T.sl false [],T.sl false [],T.sl false [], T.sl false []]
def BNG(R:T->Prop)(y10:Int):Prop:=R (T.b9 [T.agg BMD, pPP y10])
def BM1(y3:aB):List (List T):=List.map aN.enc y3.2.2.1
def BM8(y3:aB):List (List T):=List.map aF.enc y3.2.2.2.2.1
def BNA(y3:aB):List (List T):=List.map bC.enc y3.2.2.2.1
def BNC(y3:aB):List (List T):=List.map bB.enc y3.2.1
def BNI(y5:aB)(y10:List bE):List T:=[pPQ y5.1, T.sl false (BNC y5), T.sl false (BM1 y5), T.sl false (BNA y5), T.sl false (BM8 y5), T.sl false (List.map aY.enc y10)]
def BMR(y5:aB)(y10:List bE)(a1:aI)(R:T->Prop):Prop:=aJ BME (cW [T.agg (BNI y5 y10), aH true aK a1]) λ(y11:Int)=>aC (!decide (y11=0)) (BNG R y11) (R (T.b9 [T.agg (BNI y5 y10), pPP 0]))
def BMV(a0:aB):List (List T):=List.map aY.enc a0.2.2.2.2.2
def BNQ(a2:iII×iII×bN×a8×bS×aQ×bE):List T:=[pPP a2.2.2.2.2.2.2.1, pPQ a2.2.2.2.2.2.2.2.1, pPQ a2.2.2.2.2.2.2.2.2]
def BM4(y5:aB)(a2:iII×iII×bN×a8×bS×aQ×bE)(a1:aI)(R:T->Prop):Prop:=bU aY (kK (BMV y5) [pPP (↑(BMV y5).length:Int), T.sl true [(BNQ a2)]]) λ(y14:List bE)=>BMR y5 y14 a1 R
def BNE(X2:Int×PUnit->Prop)(s3:Int×PUnit):Prop:=X2 (i64.wrap (s3.1+1),())
def BM0(y9:Bool)(s7:Int×PUnit)(y5:aB)(a2:iII×iII×bN×a8×bS×aQ×bE)(a1:aI)(R:T->Prop)(X6:Int×PUnit->Prop):Prop:=aC y9 (aC (decide (s7.1<0)) (bQ (((BMV y5).all λ(r:List T)=>decide (r.length=3)) && decide ((BMV y5).length*40 <= 140737488355328) && decide ((BMV y5).length<=140737488355328)) (BM4 y5 a2 a1 R)) (bQ (((BMV y5).all λ(r:List T)=>decide (r.length=3)) && decide ((BMV y5).length*40 <= 140737488355328) && decide ((BMV y5).length<=140737488355328)) (bU aY (kK (BMV y5) [pPP s7.1, T.sl true [(BNQ a2)]]) λ(y12:List bE)=>BMR y5 y12 a1 R))) (BNE X6 s7)
def BNN(y5:aB)(a2:iII×iII×bN×a8×bS×aQ×bE)(a1:aI)(R:T->Prop):Prop:=bQ (((BMV y5).all λ(r:List T)=>decide (r.length=3)) && decide ((BMV y5).length*40<=140737488355328) && decide ((BMV y5).length<=140737488355328)) (BM4 y5 a2 a1 R)
def AEK(a0:aB)(a1:aI)(a2:iII×iII×bN×a8×bS×aQ×bE)(R:T->Prop):Prop:=aJ [(true,aM)] (vH [(aH true aM (11,a2))]) λ(y0:aV)=>aJ BMF (cH [(aH true aM (11,a2)), aH true aM y0]) λ(y1:Bool)=>aC (!y1) (R (T.b9 BMG)) (bD (Int×PUnit) (λX2 s3=>aC (decide (s3.1<(↑(BMV a0).length:Int))) (aX aY (BMV a0) s3.1 λ(y4:bE)=>aC (decide (a2.2.2.2.2.2.2.1=y4.1) && (decide (a2.2.2.2.2.2.2.2.1=y4.2.1) && (decide (a2.2.2.2.2.2.2.2.2=y4.2.2)&&true))) (aC (decide (0<=s3.1)) (R (T.b9 BMM)) (aJ [(true,aD)] (fJ [aH true aD a0]) λ(y5:aB)=>bD (Int×PUnit) (λX6 s7=>aC (decide (s7.1<(↑(BMV y5).length:Int))) (aX aY (BMV y5) s7.1 λ(y8:bE)=>aJ BMF (qU [aH true aY y8, aH true aY a2.2.2.2.2.2.2]) λ(y9:Bool)=>BM0 y9 s7 y5 a2 a1 R X6) (BNN y5 a2 a1 R)) (0,()))) (BNE X2 s3)) (aJ [(true,aD)] (fJ [aH true aD a0]) λ(y16:aB)=>bD (Int×PUnit) (λX17 s18=>aC (decide (s18.1<(↑(BMV y16).length:Int))) (aX aY (BMV y16) s18.1 λ(y19:bE)=>aJ BMF (qU [aH true aY y19,aH true aY a2.2.2.2.2.2.2]) λ(y20:Bool)=>BM0 y20 s18 y16 a2 a1 R X17) (BNN y16 a2 a1 R)) (0,()))) (0,()))
def AM3 ( a0 a1 a2 R):eJ b8 Tryz.prog ADH AVI 8 66 (CD a0 a1 a2) R=AEK a0 a1 a2 R:=by kernel_rfl
noncomputable def WR (x:o4):Option T:=match okX x.1 (11,x.2.2) with
 | true=>some (Sh.enc [(true,aD),(false,.int .i64)] (bI x.1 x.2.1 (11,x.2.2)))
 | false=>none
def ADA (x y:o4) (h:CD x.1 x.2.1 x.2.2=CD y.1 y.2.1 y.2.2):x=y:=lQ 11 x y h
noncomputable def AGK:List T->Option (T):=gA (λ(x:aB×aI×iII×iII×bN×a8×bS×aQ×bE)=>CD x.1 x.2.1 x.2.2) WR
def AO8 (a0:aB) (a1:aI) (a2:iII×iII×bN×a8×bS×aQ×bE):AGK (CD a0 a1 a2)=WR (a0,a1,a2):=fP (A:=(λ(x:aB×aI×iII×iII×bN×a8×bS×aQ×bE)=>CD x.1 x.2.1 x.2.2)) ADA (a0,a1,a2)
def A7W (h:∀ (a0:aB) (a1:aI) (a2:iII×iII×bN×a8×bS×aQ×bE) (r:T),WR (a0,a1,a2)=some r->(∀ t∈CD a0 a1 a2,Bd t)->AEK a0 a1 a2 (λy=>y=r)):aP Tryz.prog 66 AGK :=
 cU (E:=ADH) (Hs:=AVI) ATB aZ a7 (aO rfl) 8 ⟨_,_,Tryz.func66,rfl⟩ λx r h1 h2=>by
  rw[AM3];exact h x.1 x.2.1 x.2.2 r h1 h2
def A6C:aP Tryz.prog 66 AGK:=A7W λd m x r h hb=>by
 clear hb;obtain ⟨hp,rfl⟩:=j6 h;clear h;obtain ⟨hc,ho1,ho2⟩:=lT hp;have c:=dY hc;have is:∀ {a:aB×Int},bI d m (11,x)=a->Sh.enc [(true,aD),(false,.int .i64)] a=Sh.enc [(true,aD),(false,.int .i64)] (bI d m (11,x)):=λh=>by rw[h]
 have hk:(1:Int)<=((11,x):aV).1/\((11,x):aV).1<=12:=by dsimp only;omega
 have h5:¬ ((11,x):aV).1=5:=by dsimp only;omega
 have lift:∀ {a:aB×Int},bI d m (11,x)=a->∀ v,v=Sh.enc [(true,aD),(false,.int .i64)] a->v=Sh.enc [(true,aD),(false,.int .i64)] (bI d m (11,x)):=λh v hv=>by rw[h];exact hv
 unfold AEK BNN BM0 BNE BM4 BNQ BMV BMR BNI BNC BNA BM8 BM1 BNG BMM BMG BMF BME BMD BMC;have z1:vH [aH true aM (11,x)]=some (Sh.enc [(true,aM)] (bW (11,x))):=(R5 ..).trans rfl;refine aG (s:=[(true,aM)]) (y:=bW (11,x)) z1 ?_;have z2:cH [aH true aM (11,x),aH true aM (bW (11,x))]=some (Sh.enc lB (l8 (11,x) (bW (11,x)))):=fK ..;refine aG (s:=lB) (y:=l8 (11,x) (bW (11,x))) z2 ?_;refine iE (λh=>lift (lR hk h) _ rfl) λhE=>?_;have hd:=xC (r:=aY) (l:=d.2.2.2.2.2) (z:=3) (b:=40) rfl (dL c.r (by decide));have pos:∀ {k:Nat},¬ (0<=(k:Int))->False:=λh=>h (by omega);have hus:kX d (11,x)=false:=rfl;have tail:∀ (hth:dQ d (11,x) = !kS (11,x)) (l:List bE) (hl:l=j3 CM d.2.2.2.2.2 (fO (11,x))),aJ [(false,Sy.int IntKind.i64)] (cW [aH true aD (d.1,d.2.1,d.2.2.1,d.2.2.2.1,d.2.2.2.2.1,l),aH true aK m]) λ(y:Int) =>
   aC (!decide (y=0)) (Sh.enc [(true,aD),(false,.int .i64)] (rI,y)=Sh.enc [(true,aD),(false,.int .i64)] (bI d m (11,x))) (Sh.enc [(true,aD),(false,.int .i64)] ((d.1,d.2.1,d.2.2.1,d.2.2.2.1,d.2.2.2.2.1,l),0)=Sh.enc [(true,aD),(false,.int .i64)] (bI d m (11,x))):=λhth l hl=>by
  subst hl;refine aG (s:=[(false,.int .i64)]) (y:=gQ (lE d (11,x)) m) (gC ..) ?_;exact kU (λh=>is ((eX hk h5 hE hth hus).trans (if_neg h))) λh=>is ((eX hk h5 hE hth hus).trans (if_pos h))
 refine cT (r:=aY) (λn=>decide (n=fO (11,x))) (o8 c.r) (λX k y hlt hy hp hn=>?_) (λ_ h0=>?_)
 ·dsimp only;refine ifC (λh=>?_) λh=>hn (aj λe=>h (AL.2 e.symm));obtain ⟨_,h2⟩:=hp (ai (AL.1 h).symm);exact cC (λ_=>lift (tL hk h5 hE rfl h2) _ rfl) λh=>(pos h).elim
 ·have hth:dQ d (11,x) = !kS (11,x):=h0;refine aG (s:=[(true,aD)]) (y:=d) ((gZ ..).trans (dO hc)) ?_;refine cT (r:=aY) (λy=>CM y (fO (11,x))) (o8 c.r) (λX k y hk' hy hp hn=>?_) (λh _=>?_)
  ·dsimp only;refine aG (s:=lB) (y:=CM y (fO (11,x))) (AAL ..) ?_;refine wU (λh=>?_) λh=>hn h;obtain ⟨hi,_⟩:=hp h;refine cC (λh=>by omega) λ_=>⟨hd,?_⟩
   refine dV (r:=aY) (l:=d.2.2.2.2.2.take k++fO (11,x)::d.2.2.2.2.2.drop k) (sX (r:=aY) (x:=fO (11,x)) rfl (by omega) c.r (by decide)) _ ?_;exact tail hth _ (by unfold j3;rw[hi])
  ·refine ⟨hd,?_⟩;rw[show (((List.map aY.enc d.2.2.2.2.2).length:Nat):Int)=((d.2.2.2.2.2.length:Nat):Int) by rw[ae]];refine dV (r:=aY) (l:=d.2.2.2.2.2.take d.2.2.2.2.2.length++fO (11,x)::d.2.2.2.2.2.drop d.2.2.2.2.2.length) (sX (r:=aY) (x:=fO (11,x)) rfl (al _) c.r (by decide)) _ ?_;exact tail hth _ (by unfold j3;rw[h])
def CE (a0:aB) (a1:aI) (a2:iII×iII×bN×a8×bS×aQ×bE):List T:=[aH true aD a0,aH true aK a1,aH true aM (12,a2)]
noncomputable def ADI:Env:=Env.of [(93,.pure cH),(230,.pure vH),(183,.pure jL),(69,.pure fJ),(234,.pure qU),(105,.dup 3 40),(298,.grow 3 kK),(299,.grow 3 AA),(65,.pure cW)]
def AVJ:FuncId->Hint:=cA 278 [(2,.inv [.val 8 false (.int .i64)])] (cA 294 [(2,.inv [.val 8 false (.int .i64)])] (λ_=>bA))
def ATC:aU Tryz.prog ADI:=.cons jJ (.cons AJ8 (.cons tV (.cons oE (.cons RE (aU.cons (x:=.dup 3 40) CU (.cons NJ (.cons NI (.cons kH (.nil _)))))))))
def BM6(y6:aB)(a1:aI)(R:T->Prop):Prop:=bQ (((BMV y6).all λ(r:List T)=>decide (r.length=3)) && decide ((BMV y6).length*40 <= 140737488355328) && decide ((BMV y6).length<=140737488355328)) (aJ BME (cW [aH true aD y6,aH true aK a1]) λ(y10:Int)=>aC (!decide (y10=0)) (BNG R y10) (R (T.b9 [aH true aD y6, pPP 0])))
def AEL(a0:aB)(a1:aI)(a2:iII×iII×bN×a8×bS×aQ×bE)(R:T->Prop):Prop:=aJ [(true,aM)] (vH [(aH true aM (12,a2))]) λ(y0:aV)=>aJ BMF (cH [(aH true aM (12,a2)), aH true aM y0]) λ(y1:Bool)=>aC (!y1) (R (T.b9 BMG)) (bD (Int×PUnit) (λX2 s3=>aC (decide (s3.1<(↑(BMV a0).length:Int))) (aX aY (BMV a0) s3.1 λ(y4:bE)=>aC (decide (a2.2.2.2.2.2.2.1=y4.1) && (decide (a2.2.2.2.2.2.2.2.1=y4.2.1) && (decide (a2.2.2.2.2.2.2.2.2=y4.2.2)&&true))) (aC (!decide (0<=s3.1)) (R (T.b9 BMI)) (aJ BMF (jL [aH true aD a0, (aH true aM (12,a2))]) λ(y5:Bool)=>aC y5 (R (T.b9 BML)) (aJ [(true,aD)] (fJ [aH true aD a0]) λ(y6:aB)=>bD (Int×PUnit) (λX7 s8=>aC (decide (s8.1<(↑(BMV y6).length:Int))) (aX aY (BMV y6) s8.1 λ(y9:bE)=>aC (decide (y9.1=a2.2.2.2.2.2.2.1) && (decide (y9.2.1=a2.2.2.2.2.2.2.2.1) && (decide (y9.2.2=a2.2.2.2.2.2.2.2.2)&&true))) (aC (decide (s8.1<0)) (BM6 y6 a1 R) (bQ (((BMV y6).all λ(r:List T)=>decide (r.length=3)) && decide ((BMV y6).length*40 <= 140737488355328) && decide ((BMV y6).length<=140737488355328)) (bU aY (AA (BMV y6) [pPP s8.1, pPP (i64.wrap (s8.1+1))]) λ(y11:List bE)=>BMR y6 y11 a1 R))) (BNE X7 s8)) (BM6 y6 a1 R)) (0,())))) (BNE X2 s3)) (R (T.b9 BMI))) (0,()))
def AM4 ( a0 a1 a2 R):eJ b8 Tryz.prog ADI AVJ 8 66 (CE a0 a1 a2) R=AEL a0 a1 a2 R:=by kernel_rfl
noncomputable def WS (x:o4):Option T:=match okX x.1 (12,x.2.2) with
 | true=>some (Sh.enc [(true,aD),(false,.int .i64)] (bI x.1 x.2.1 (12,x.2.2)))
 | false=>none
def ADB (x y:o4) (h:CE x.1 x.2.1 x.2.2=CE y.1 y.2.1 y.2.2):x=y:=lQ 12 x y h
noncomputable def AGL:List T->Option (T):=gA (λ(x:aB×aI×iII×iII×bN×a8×bS×aQ×bE)=>CE x.1 x.2.1 x.2.2) WS
def AO9 (a0:aB) (a1:aI) (a2:iII×iII×bN×a8×bS×aQ×bE):AGL (CE a0 a1 a2)=WS (a0,a1,a2):=fP (A:=(λ(x:aB×aI×iII×iII×bN×a8×bS×aQ×bE)=>CE x.1 x.2.1 x.2.2)) ADB (a0,a1,a2)
def A7X (h:∀ (a0:aB) (a1:aI) (a2:iII×iII×bN×a8×bS×aQ×bE) (r:T),WS (a0,a1,a2)=some r->(∀ t∈CE a0 a1 a2,Bd t)->AEL a0 a1 a2 (λy=>y=r)):aP Tryz.prog 66 AGL :=
 cU (E:=ADI) (Hs:=AVJ) ATC aZ a7 (aO rfl) 8 ⟨_,_,Tryz.func66,rfl⟩ λx r h1 h2=>by
  rw[AM4];exact h x.1 x.2.1 x.2.2 r h1 h2
def A6D:aP Tryz.prog 66 AGL:=A7X λd m x r h hb=>by
 clear hb;obtain ⟨hp,rfl⟩:=j6 h;clear h;obtain ⟨hc,ho1,ho2⟩:=lT hp;have c:=dY hc;have is:∀ {a:aB×Int},bI d m (12,x)=a->Sh.enc [(true,aD),(false,.int .i64)] a=Sh.enc [(true,aD),(false,.int .i64)] (bI d m (12,x)):=λh=>by rw[h]
 have hk:(1:Int)<=((12,x):aV).1/\((12,x):aV).1<=12:=by dsimp only;omega
 have h5:¬ ((12,x):aV).1=5:=by dsimp only;omega
 have lift:∀ {a:aB×Int},bI d m (12,x)=a->∀ v,v=Sh.enc [(true,aD),(false,.int .i64)] a->v=Sh.enc [(true,aD),(false,.int .i64)] (bI d m (12,x)):=λh v hv=>by rw[h];exact hv
 unfold AEL BM6 BNE BMV BMR BNI BNC BNA BM8 BM1 BNG BML BMI BMG BMF BME BMD BMC;have z1:vH [aH true aM (12,x)]=some (Sh.enc [(true,aM)] (bW (12,x))):=(R5 ..).trans rfl;refine aG (s:=[(true,aM)]) (y:=bW (12,x)) z1 ?_;have z2:cH [aH true aM (12,x),aH true aM (bW (12,x))]=some (Sh.enc lB (l8 (12,x) (bW (12,x)))):=fK ..;refine aG (s:=lB) (y:=l8 (12,x) (bW (12,x))) z2 ?_;refine iE (λh=>lift (lR hk h) _ rfl) λhE=>?_;have hd:=xC (r:=aY) (l:=d.2.2.2.2.2) (z:=3) (b:=40) rfl (dL c.r (by decide));have pos:∀ {k:Nat},¬ (0<=(k:Int))->False:=λh=>h (by omega);have hus:kX d (12,x)=false:=rfl;refine cT (r:=aY) (λn=>decide (n=fO (12,x))) (o8 c.r) (λX k y hlt hy hp hn=>?_) (λ_ h0=>lift (tK hk h5 hE rfl h0) _ rfl);dsimp only;refine ifC (λh=>?_) λh=>hn (aj λe=>h (AL.2 e.symm));obtain ⟨_,h2⟩:=hp (ai (AL.1 h).symm);have hth:dQ d (12,x) = !kS (12,x):=h2;refine iE (λh=>(pos (of_decide_eq_false h)).elim) λ_=>?_;have z4:jL [aH true aD d,aH true aM (12,x)]=some (Sh.enc lB (kX d (12,x))):=(I8 ..).trans rfl;refine aG (s:=lB) (y:=kX d (12,x)) z4 ?_;refine wU (λh=>absurd h (by rw[hus];decide)) λ_=>?_;refine aG (s:=[(true,aD)]) (y:=d) ((gZ ..).trans (dO hc)) ?_;clear hp hn;refine cT (r:=aY) (λn=>decide (n=fO (12,x))) (o8 c.r) (λX k y hk' hy hp hn=>?_) (λh h3=>?_)
 ·dsimp only;refine ifC (λh=>?_) λh=>hn (aj λe=>h (AL.2 e));obtain ⟨hi,_⟩:=hp (ai (AL.1 h));refine cC (λh=>by omega) λ_=>⟨hd,?_⟩
  have eD:lE d (12,x)=(d.1,d.2.1,d.2.2.1,d.2.2.2.1,d.2.2.2.2.1,d.2.2.2.2.2.take k++d.2.2.2.2.2.drop (k+1)):=by
   show (d.1,d.2.1,d.2.2.1,d.2.2.2.1,d.2.2.2.2.1,fY (λn=>decide (n=fO (12,x))) d.2.2.2.2.2)=_;unfold fY;rw[hi]
  refine dV (r:=aY) (l:=d.2.2.2.2.2.take k++d.2.2.2.2.2.drop (k+1)) (GJ (r:=aY) rfl hk' c.r) _ ?_;have z5:cW [aH true aD (d.1,d.2.1,d.2.2.1,d.2.2.2.1,d.2.2.2.2.1,d.2.2.2.2.2.take k++d.2.2.2.2.2.drop (k+1)),aH true aK m]=some (Sh.enc [(false,Sy.int .i64)] (gQ (d.1,d.2.1,d.2.2.1,d.2.2.2.1,d.2.2.2.2.1,d.2.2.2.2.2.take k++d.2.2.2.2.2.drop (k+1)) m)):=gC ..;refine aG (s:=[(false,.int .i64)]) (y:=gQ (lE d (12,x)) m) (by rw[eD];exact z5) ?_;exact kU (λh=>lift ((eX hk h5 hE hth hus).trans (if_neg h)) _ rfl) λh=>lift ((eX hk h5 hE hth hus).trans (if_pos h)) _ (by rw[eD];rfl)
 ·exfalso;have:=h2.symm.trans h3;cases this
end Go.Pv
namespace Go.Pv
open Go Go.Proofs IntKind
variable {α:Type}
def AJR {is:α->Bool} {f:α->α} {l:List α} {k:Nat} (hk:k<l.length) (h:l.findIdx is=k):MK is f l=l.set k (f l[k]):=by
 unfold MK;rw[h];refine List.ext_getElem (by simp) λi h1 h2=>?_;rw[List.getElem_modify,List.getElem_set];by_cases e:k=i
 ·subst e;simp
 ·simp[e]
def ALJ {r:Sy} {l:List r.den} {k:Nat} {y:r.den} {row:List T} (h:row=r.enc y):(List.map r.enc l).set k row=List.map r.enc (l.set k y):=by rw[h,List.map_set]
def TF {α:Type}:∀ (s pre r:List α),r.length=s.length->bX (pre++r) pre.length s=pre++s
 | [],pre,[],_=>rfl
 | [],_,_::_,h=>by cases h
 | _::_,_,[],h=>by cases h
 | x::s,pre,a::r,h=>by
  unfold bX;rw[show (pre++a::r).set pre.length x=(pre++[x])++r by simp,show pre.length+1=(pre++[x]).length by simp,TF s (pre++[x]) r (by simpa using h)];simp
def AJA (r s:List α) (h:r.length=s.length):bX r 0 s=s:=TF s [] r h
def ACJ {d:aB} {id:iII} (h:(partOf d id).isSome=true):d.2.2.1≠[]:=by
 intro e;unfold partOf at h;rw[e] at h;cases h
def ACI {d:aB} {id:iII} (h:(partOf d id).isSome=true):d.2.2.1.any (λp=>cP id p)=true:=by
 unfold partOf at h;rw[List.find?_isSome] at h;obtain ⟨p,hp,h⟩:=h;exact List.any_eq_true.2 ⟨p,hp,h⟩
def S6 {d:aB} {n:Nat} (h:d.2.2.1≠[]) (hn:n=aN.w):(!(List.map aN.enc d.2.2.1).isEmpty&&eY n (List.map aN.enc d.2.2.1))=true:=by
 subst hn;rw[ac];refine ⟨?_,tJ ..⟩;cases hl:d.2.2.1 with
 | nil=>exact absurd hl h
 | cons a l=>rfl
def KV (a0:aB) (a1:aI) (a2:iII×iII×bN×a8×bS×aQ×bE):List T:=[aH true aD a0,aH true aK a1,aH true aM (6,a2)]
noncomputable def ASA:Env:=Env.of [(93,.pure cH),(189,.pure SB),(94,.pure lS),(183,.pure jL),(108,.pure iL),(69,.part 2 NU),(65,.pure cW)]
def A89:FuncId->Hint:=cA 185 [(2,.inv [.val 8 false (.int .i64)])] (λ_=>bA)
def A31:aU Tryz.prog ASA:=.cons jJ (.cons BCI (.cons D6 (.cons tV (.cons vE (.cons AJ3 (.cons kH (.nil _)))))))
def BNK(y3:aB)(y12:List T)(a2:iII×iII×bN×a8×bS×aQ×bE):List T:=[pPQ y3.1, T.sl false (BNC y3), T.sl false ((BM1 y3).set (-1).toNat (bX y12 3 [pPQ a2.2.1])), T.sl false (BNA y3), T.sl false (BM8 y3), T.sl false (BMV y3)]
def BNO(y3:aB)(s5:Int×PUnit)(y9:List T)(a2:iII×iII×bN×a8×bS×aQ×bE):List T:=[pPQ y3.1, T.sl false (BNC y3), T.sl false ((BM1 y3).set (Int.toNat s5.1) (bX y9 3 [pPQ a2.2.1])), T.sl false (BNA y3), T.sl false (BM8 y3), T.sl false (BMV y3)]
def AT6(a0:aB)(a1:aI)(a2:iII×iII×bN×a8×bS×aQ×bE)(R:T->Prop):Prop:=aJ [(true,aM)] (SB [(aH true aM (6,a2))]) λ(y0:aV)=>aJ BMF (cH [(aH true aM (6,a2)), aH true aM y0]) λ(y1:Bool)=>aC (!y1) (R (T.b9 BMG)) (aJ BMN (lS [aH true aD a0,pPQ a2.1]) λ(y2:a8×Bool)=>aC (!y2.2) (R (T.b9 BMI)) (aJ [(true,aD)] (NU [aH true aD a0]) λ(y3:aB)=>bQ (!(BM1 y3).isEmpty && eY (1+(1+(1+(1+(1+(1+(1+1+(1+(1+(1+(1+(1+1)+(1+(1+1)+1)))))))))))) (BM1 y3)) (bD (Int×PUnit) (λX4 s5=>aC (decide (s5.1<(↑(BM1 y3).length:Int))) (aX aN (BM1 y3) s5.1 λ(y6:a8)=>fH aN (BM1 y3) (Int.toNat s5.1) 0 λ(y7:a8)=>aC (decide (y7.1=a2.1)) (aX aN (BM1 y3) s5.1 λ(y8:a8)=>E7 (BM1 y3) (Int.toNat s5.1) λ(y9:List T)=>bQ (decide (4<=y9.length)) (aJ BME (cW [T.agg (BNO y3 s5 y9 a2), aH true aK a1]) λ(y10:Int)=>aC (!decide (y10=0)) (BNG R y10) (R (T.b9 [T.agg (BNO y3 s5 y9 a2), pPP 0])))) (BNE X4 s5)) (aX aN (BM1 y3) (-1) λ(y11:a8)=>E7 (BM1 y3) (-1).toNat λ(y12:List T)=>bQ (decide (4<=y12.length)) (aJ BME (cW [T.agg (BNK y3 y12 a2), aH true aK a1]) λ(y13:Int)=>aC (!decide (y13=0)) (BNG R y13) (R (T.b9 [T.agg (BNK y3 y12 a2), pPP 0]))))) (0,()))))
def AT7 ( a0 a1 a2 R):eJ b8 Tryz.prog ASA A89 8 66 (KV a0 a1 a2) R=AT6 a0 a1 a2 R:=by kernel_rfl
noncomputable def AIV (x:o4):Option T:=match okX x.1 (6,x.2.2) with
 | true=>some (Sh.enc [(true,aD),(false,.int .i64)] (bI x.1 x.2.1 (6,x.2.2)))
 | false=>none
def ALY (x y:o4) (h:KV x.1 x.2.1 x.2.2=KV y.1 y.2.1 y.2.2):x=y:=lQ 6 x y h
noncomputable def AYJ:List T->Option (T):=gA (λ(x:aB×aI×iII×iII×bN×a8×bS×aQ×bE)=>KV x.1 x.2.1 x.2.2) AIV
def AYK (a0:aB) (a1:aI) (a2:iII×iII×bN×a8×bS×aQ×bE):AYJ (KV a0 a1 a2)=AIV (a0,a1,a2):=fP (A:=(λ(x:aB×aI×iII×iII×bN×a8×bS×aQ×bE)=>KV x.1 x.2.1 x.2.2)) ALY (a0,a1,a2)
def BDY (h:∀ (a0:aB) (a1:aI) (a2:iII×iII×bN×a8×bS×aQ×bE) (r:T),AIV (a0,a1,a2)=some r->(∀ t∈KV a0 a1 a2,Bd t)->AT6 a0 a1 a2 (λy=>y=r)):aP Tryz.prog 66 AYJ :=
 cU (E:=ASA) (Hs:=A89) A31 aZ a7 (aO rfl) 8 ⟨_,_,Tryz.func66,rfl⟩ λx r h1 h2=>by
  rw[AT7];exact h x.1 x.2.1 x.2.2 r h1 h2
def BBT:aP Tryz.prog 66 AYJ:=BDY λd m x r h hb=>by
 clear hb;obtain ⟨hp,rfl⟩:=j6 h;clear h;obtain ⟨hc,ho1,ho2⟩:=lT hp;have c:=dY hc;have hk:(1:Int)<=((6,x):aV).1/\((6,x):aV).1<=12:=by dsimp only;omega
 have lift:∀ {a:aB×Int},bI d m (6,x)=a->∀ v,v=Sh.enc [(true,aD),(false,.int .i64)] a->v=Sh.enc [(true,aD),(false,.int .i64)] (bI d m (6,x)):=λh v hv=>by rw[h];exact hv
 unfold AT6 BNO BNK BNE BMV BNC BNA BM8 BM1 BNG BMN BMI BMG BMF BME BMD BMC;have z1:SB [aH true aM (6,x)]=some (Sh.enc [(true,aM)] (bW (6,x))):=(AY8 ..).trans rfl;refine aG (s:=[(true,aM)]) (y:=bW (6,x)) z1 ?_;have z2:cH [aH true aM (6,x),aH true aM (bW (6,x))]=some (Sh.enc lB (l8 (6,x) (bW (6,x)))):=fK ..;refine aG (s:=lB) (y:=l8 (6,x) (bW (6,x))) z2 ?_;refine iE (λh=>lift (lR hk h) _ rfl) λhE=>?_;have h5:¬ ((6,x):aV).1=5:=by dsimp only;omega
 refine aG (s:=[(true,aN),(false,.bool)]) (y:=found eN (partOf d (fE (6,x)))) ((qV ..).trans (by unfold lM;dsimp only;rw[c.JH];rfl)) ?_;have ht:dQ d (6,x)=(found eN (partOf d (fE (6,x)))).2:=(gY ..).symm;refine iE (λh=>lift (tK hk h5 hE rfl (ht.trans h)) _ rfl) λh=>?_;have hth:dQ d (6,x) = !kS (6,x):=ht.trans h;have hus:kX d (6,x)=false:=rfl;have hso:(partOf d (fE (6,x))).isSome=true:=(gY ..).symm.trans h;refine aG (s:=[(true,aD)]) (y:=d) ((gZ ..).trans (dO hc)) ⟨S6 (ACJ hso) rfl,?_⟩;refine cT (r:=aN) (λp=>cP (fE (6,x)) p) (o8 c.p) (λX k y hlt hy hp hn=>?_) (λh0 ha=>absurd (ACI hso) (by rw[ha];exact Bool.false_ne_true));rw[show Int.toNat (k:Int)=k from rfl,jM (r:=aN) hlt];refine cC (λhe=>?_) λhe=>hn (by subst hy;exact aj he);obtain ⟨hidx,_⟩:=hp (by subst hy;exact ai he);rw[bK (r:=aN) hlt,pW (r:=aN) hlt];refine ⟨by rw[Sy.cY];rfl,?_⟩;have hD:lE d (6,x)=(d.1,d.2.1,d.2.2.1.set k (AHJ d.2.2.1[k] (eTo (6,x))),d.2.2.2):=by
  have e:lE d (6,x)=(d.1,d.2.1,MK (cP (fE (6,x))) (λp=>AHJ p (eTo (6,x))) d.2.2.1,d.2.2.2):=rfl;rw[e,AJR hlt hidx]
 have hs:(List.map aN.enc d.2.2.1).set k (bX (aN.enc d.2.2.1[k]) 3 [pPQ x.2.1])=List.map aN.enc (d.2.2.1.set k (AHJ d.2.2.1[k] (eTo (6,x)))):=ALJ (r:=aN) rfl;rw[hs];have z3:=gC (a0:=lE d (6,x)) (a1:=m);have hchk:=eX (m:=m) hk h5 hE hth hus;rw[hD] at z3 hchk;refine aG (s:=[(false,.int .i64)]) z3 ?_;exact kU (λh=>lift (hchk.trans (if_neg h)) _ rfl) λh=>lift (hchk.trans (if_pos h)) _ rfl
def KU (a0:aB) (a1:aI) (a2:iII×iII×bN×a8×bS×aQ×bE):List T:=[aH true aD a0,aH true aK a1,aH true aM (5,a2)]
noncomputable def AR9:Env:=Env.of [(93,.pure cH),(181,.pure SA),(94,.pure lS),(183,.pure jL),(108,.pure iL),(69,.part 2 NU),(65,.pure cW)]
def A88:FuncId->Hint:=cA 185 [(2,.inv [.val 8 false (.int .i64)])] (λ_=>bA)
def A30:aU Tryz.prog AR9:=.cons jJ (.cons BCH (.cons D6 (.cons tV (.cons vE (.cons AJ3 (.cons kH (.nil _)))))))
def BMU(y9:a8)(y11:Int):List T:=[pPQ y9.1, pPP (i64.wrap (y11+1)), pPP y9.2.2.1, pPQ y9.2.2.2.1, pPQ y9.2.2.2.2.1, pPP y9.2.2.2.2.2.1, T.sl false (List.map aA.enc y9.2.2.2.2.2.2.1.1), T.sl false (List.map aA.li.enc y9.2.2.2.2.2.2.1.2), pPQ y9.2.2.2.2.2.2.2.1, pPP y9.2.2.2.2.2.2.2.2.1, pPP y9.2.2.2.2.2.2.2.2.2.1, pPP y9.2.2.2.2.2.2.2.2.2.2.1.1, pPP y9.2.2.2.2.2.2.2.2.2.2.1.2.1, pPP y9.2.2.2.2.2.2.2.2.2.2.1.2.2, pPP y9.2.2.2.2.2.2.2.2.2.2.2.1.1, pPP y9.2.2.2.2.2.2.2.2.2.2.2.1.2.1, pPP y9.2.2.2.2.2.2.2.2.2.2.2.1.2.2, pPP y9.2.2.2.2.2.2.2.2.2.2.2.2]
def BNJ(y4:aB)(y19:List T)(y15:a8)(y17:Int):List T:=[pPQ y4.1, T.sl false (BNC y4), T.sl false ((BM1 y4).set (-1).toNat (bX y19 0 (BMU y15 y17))), T.sl false (BNA y4), T.sl false (BM8 y4), T.sl false (BMV y4)]
def BNM(y4:aB)(s6:Int×PUnit)(y13:List T)(y9:a8)(y11:Int):List T:=[pPQ y4.1, T.sl false (BNC y4), T.sl false ((BM1 y4).set (Int.toNat s6.1) (bX y13 0 (BMU y9 y11))), T.sl false (BNA y4), T.sl false (BM8 y4), T.sl false (BMV y4)]
def AT4(a0:aB)(a1:aI)(a2:iII×iII×bN×a8×bS×aQ×bE)(R:T->Prop):Prop:=aJ [(true,aM)] (SA [(aH true aM (5,a2))]) λ(y0:aV)=>aJ BMF (cH [(aH true aM (5,a2)), aH true aM y0]) λ(y1:Bool)=>aC (!y1) (R (T.b9 BMG)) (aC (!decide (a2.2.2.2.1.2.1=0)) (R (T.b9 BMG)) (aJ BMN (lS [aH true aD a0,pPQ a2.2.2.2.1.1]) λ(y2:a8×Bool)=>aC (!y2.2) (R (T.b9 BMI)) (aJ BMN (lS [aH true aD a0,pPQ a2.2.2.2.1.1]) λ(y3:a8×Bool)=>aC (!decide (y3.1.2.2.2.1=a2.2.2.2.1.2.2.2.1)) (R (T.b9 BMG)) (aJ [(true,aD)] (NU [aH true aD a0]) λ(y4:aB)=>bQ (!(BM1 y4).isEmpty && eY (1 + (1+(1+(1+(1+(1+(1+1+(1+(1+(1+(1+(1+1)+(1+(1+1)+1)))))))))))) (BM1 y4)) (bD (Int×PUnit) (λX5 s6=>aC (decide (s6.1<(↑(BM1 y4).length:Int))) (aX aN (BM1 y4) s6.1 λ(y7:a8)=>fH aN (BM1 y4) (Int.toNat s6.1) 0 λ(y8:a8)=>aC (decide (y8.1=a2.2.2.2.1.1)) (aJ [(true,aN)] (iL [aH true aN a2.2.2.2.1]) λ(y9:a8)=>aX aN (BM1 y4) s6.1 λ(y10:a8)=>fH (Sy.int IntKind.i64) (BM1 y4) (Int.toNat s6.1) 1 λ(y11:Int)=>aX aN (BM1 y4) s6.1 λ(y12:a8)=>E7 (BM1 y4) (Int.toNat s6.1) λ(y13:List T)=>bQ (decide (18<=y13.length)) (aJ BME (cW [T.agg (BNM y4 s6 y13 y9 y11), aH true aK a1]) λ(y14:Int)=>aC (!decide (y14=0)) (R (T.b9 [T.agg [pPQ ({data:=#[]}), T.sl false [],T.sl false [],T.sl false [], T.sl false [],T.sl false []], pPP y14])) (R (T.b9 [T.agg (BNM y4 s6 y13 y9 y11), pPP 0])))) (BNE X5 s6)) (aJ [(true,aN)] (iL [aH true aN a2.2.2.2.1]) λ(y15:a8)=>aX aN (BM1 y4) (-1) λ(y16:a8)=>fH (Sy.int IntKind.i64) (BM1 y4) (-1).toNat 1 λ(y17:Int)=>aX aN (BM1 y4) (-1) λ(y18:a8)=>E7 (BM1 y4) (-1).toNat λ(y19:List T)=>bQ (decide (18<=y19.length)) (aJ BME (cW [T.agg (BNJ y4 y19 y15 y17), aH true aK a1]) λ(y20:Int)=>aC (!decide (y20=0)) (BNG R y20) (R (T.b9 [T.agg (BNJ y4 y19 y15 y17), pPP 0]))))) (0,()))))))
def AT5 ( a0 a1 a2 R):eJ b8 Tryz.prog AR9 A88 8 66 (KU a0 a1 a2) R=AT4 a0 a1 a2 R:=by kernel_rfl
noncomputable def AIU (x:o4):Option T:=match okX x.1 (5,x.2.2) with
 | true=>some (Sh.enc [(true,aD),(false,.int .i64)] (bI x.1 x.2.1 (5,x.2.2)))
 | false=>none
def ALX (x y:o4) (h:KU x.1 x.2.1 x.2.2=KU y.1 y.2.1 y.2.2):x=y:=lQ 5 x y h
noncomputable def AYH:List T->Option (T):=gA (λ(x:aB×aI×iII×iII×bN×a8×bS×aQ×bE)=>KU x.1 x.2.1 x.2.2) AIU
def AYI (a0:aB) (a1:aI) (a2:iII×iII×bN×a8×bS×aQ×bE):AYH (KU a0 a1 a2)=AIU (a0,a1,a2):=fP (A:=(λ(x:aB×aI×iII×iII×bN×a8×bS×aQ×bE)=>KU x.1 x.2.1 x.2.2)) ALX (a0,a1,a2)
def BDX (h:∀ (a0:aB) (a1:aI) (a2:iII×iII×bN×a8×bS×aQ×bE) (r:T),AIU (a0,a1,a2)=some r->(∀ t∈KU a0 a1 a2,Bd t)->AT4 a0 a1 a2 (λy=>y=r)):aP Tryz.prog 66 AYH :=
 cU (E:=AR9) (Hs:=A88) A30 aZ a7 (aO rfl) 8 ⟨_,_,Tryz.func66,rfl⟩ λx r h1 h2=>by
  rw[AT5];exact h x.1 x.2.1 x.2.2 r h1 h2
def BBS:aP Tryz.prog 66 AYH:=BDX λd m x r h hb=>by
 clear hb;obtain ⟨hp,rfl⟩:=j6 h;clear h;obtain ⟨hc,ho1,ho2⟩:=lT hp;have c:=dY hc;have hk:(1:Int)<=((5,x):aV).1/\((5,x):aV).1<=12:=by dsimp only;omega
 have lift:∀ {a:aB×Int},bI d m (5,x)=a->∀ v,v=Sh.enc [(true,aD),(false,.int .i64)] a->v=Sh.enc [(true,aD),(false,.int .i64)] (bI d m (5,x)):=λh v hv=>by rw[h];exact hv
 unfold AT4 BNM BNJ BNE BMV BMU BNC BNA BM8 BM1 BNG BMN BMI BMG BMF BME BMD BMC;have z1:SA [aH true aM (5,x)]=some (Sh.enc [(true,aM)] (bW (5,x))):=(AY7 ..).trans rfl;refine aG (s:=[(true,aM)]) (y:=bW (5,x)) z1 ?_;have z2:cH [aH true aM (5,x),aH true aM (bW (5,x))]=some (Sh.enc lB (l8 (5,x) (bW (5,x)))):=fK ..;refine aG (s:=lB) (y:=l8 (5,x) (bW (5,x))) z2 ?_;refine iE (λh=>lift (lR hk h) _ rfl) λhE=>?_;have hr:¬ (¬ (1<=((5,x):aV).1/\((5,x):aV).1<=12)):=λh=>h hk;refine kU (λh=>lift (by unfold bI;rw[if_neg hr,if_pos (.inr ⟨rfl,h⟩)]) _ rfl) λhrev=>?_;have hpl:¬ (l8 (5,x) (bW (5,x))=false\/(((5,x):aV).1=5/\¬ (cV (5,x)).2.1=0)):=λh=>h.elim (λe=>by rw[hE] at e;cases e) λe=>e.2 hrev;refine aG (s:=[(true,aN),(false,.bool)]) (y:=found eN (partOf d (cV (5,x)).1)) ((qV ..).trans (by unfold lM;dsimp only;rw[c.JH];rfl)) ?_;have ht:dQ d (5,x)=(found eN (partOf d (cV (5,x)).1)).2:=(gY ..).symm;have had:¬ (kS (5,x)=true/\dQ d (5,x)=true):=λh=>by cases h.1
 refine iE (λh=>lift (by unfold bI;rw[if_neg hr,if_neg hpl,if_neg had,if_pos ⟨rfl,ht.trans h⟩]) _ rfl) λh=>?_;have hno:¬ (kS (5,x)=false/\dQ d (5,x)=false):=λe=>by rw[ht,h] at e;cases e.2
 have hso:(partOf d (cV (5,x)).1).isSome=true:=(gY ..).symm.trans h;refine aG (s:=[(true,aN),(false,.bool)]) (y:=found eN (partOf d (cV (5,x)).1)) ((qV ..).trans (by unfold lM;dsimp only;rw[c.JH];rfl)) ?_;refine kU (λh=>lift (by unfold bI;rw[if_neg hr,if_neg hpl,if_neg had,if_neg hno,if_pos ⟨rfl,h⟩]) _ rfl) λhnode=>?_;have hnd:¬ (((5,x):aV).1=5/\¬ nP (found eN (partOf d (cV (5,x)).1)).1=nP (cV (5,x))):=λe=>e.2 hnode;have hchk:bI d m (5,x)=if gQ (lE d (5,x)) m=0 then (lE d (5,x),0) else (rI,gQ (lE d (5,x)) m):=by
  have hu:¬ kX d (5,x)=true:=λh=>by cases h
  unfold bI;rw[if_neg hr,if_neg hpl,if_neg had,if_neg hno,if_neg hnd,if_neg hu]
 refine aG (s:=[(true,aD)]) (y:=d) ((gZ ..).trans (dO hc)) ⟨S6 (ACJ hso) rfl,?_⟩;refine cT (r:=aN) (λp=>cP (cV (5,x)).1 p) (o8 c.p) (λX k y hlt hy hp hn=>?_) (λh0 ha=>absurd (ACI hso) (by rw[ha];exact Bool.false_ne_true));rw[show Int.toNat (k:Int)=k from rfl,jM (r:=aN) hlt];refine cC (λhe=>?_) λhe=>hn (by subst hy;exact aj he);obtain ⟨hidx,_⟩:=hp (by subst hy;exact ai he);refine aG (s:=[(true,aN)]) (y:=cV (5,x)) ((vG ..).trans (by unfold jD;rw[ho1])) ?_;rw[bK (r:=aN) hlt];refine ⟨aN.enc d.2.2.1[k],(d.2.2.1[k]).2.1,rZ.2 (List.getElem?_eq_getElem hlt),by rw[Sy.cY];decide,rfl,?_⟩;dsimp only;rw[bK (r:=aN) hlt,pW (r:=aN) hlt];refine ⟨by rw[Sy.cY];rfl,?_⟩;have hD:lE d (5,x)=(d.1,d.2.1,d.2.2.1.set k (AH4 (cV (5,x)) d.2.2.1[k]),d.2.2.2):=by
  have e:lE d (5,x)=(d.1,d.2.1,MK (cP (cV (5,x)).1) (AH4 (cV (5,x))) d.2.2.1,d.2.2.2):=rfl;rw[e,AJR hlt hidx]
 generalize hrow:bX (aN.enc d.2.2.1[k]) 0 _=row;have hs:(List.map aN.enc d.2.2.1).set k row=List.map aN.enc (d.2.2.1.set k (AH4 (cV (5,x)) d.2.2.1[k])):=ALJ (r:=aN) (by rw[<-hrow,AJA _ _ (by rw[Sy.cY];rfl)];rfl);rw[hs];have z3:=gC (a0:=lE d (5,x)) (a1:=m);rw[hD] at z3 hchk;refine aG (s:=[(false,.int .i64)]) z3 ?_;exact kU (λh=>lift (hchk.trans (if_neg h)) _ rfl) λh=>lift (hchk.trans (if_pos h)) _ rfl
end Go.Pv
namespace Go.Pv
open Go Go.Proofs IntKind
end Go.Pv
namespace Go.Pv
open Go Go.Proofs IntKind
noncomputable def BFZ:Env:=Env.of []
def BGL:FuncId->Hint:=λ_=>bA
def A3V:aU Tryz.prog BFZ:=.nil _
def ATV(a0:aB)(a1:aI)(a2:aV)(R:T->Prop):Prop:=aC (decide (a2.1=1)) (aC (decide (a2.1=1)) (nN 72) (nN 72)) (aC (decide (a2.1=2)) (aC (decide (a2.1=1)) (nN 72) (nN 72)) (aC (decide (a2.1=3)) (aC (decide (a2.1=3)) (nN 72) (nN 72)) (aC (decide (a2.1=4)) (aC (decide (a2.1=3)) (nN 72) (nN 72)) (aC (decide (a2.1=5)) (nN 72) (aC (decide (a2.1=6)) (nN 72) (aC (decide (a2.1=7)) (aC (decide (a2.1=7)) (nN 72) (nN 72)) (aC (decide (a2.1=8)) (aC (decide (a2.1=7)) (nN 72) (nN 72)) (aC (decide (a2.1=9)) (aC (decide (a2.1=9)) (nN 72) (nN 72)) (aC (decide (a2.1=10)) (aC (decide (a2.1=9)) (nN 72) (nN 72)) (aC (decide (a2.1=11)) (nN 72) (aC (decide (a2.1=12)) (nN 72) (R (T.b9 [T.agg BMC, pPP 10])))))))))))))
abbrev A2C:Sh:=[(true,aD),(true,aK),(true,aM)]
def H9 (x:aB×aI×aV):Option T:=if 1<=x.2.2.1/\x.2.2.1<=12 then none else some (Sh.enc [(true,aD),(false,.int .i64)] (rI,10))
noncomputable def AX7:List T->Option T:=gS A2C H9
def AX8 {a0 a1 a2}:AX7 [aH true aD a0,aH true aK a1,aH true aM a2]=H9 (a0,a1,a2):=bJ (s:=A2C) rfl (a0,a1,a2) rfl
def BDS:Of3 Tryz.prog 66 AX7 H9 (cJ A2C) ATV:=AB5 (a1:=(true,aD)) (a2:=(true,aK)) (a3:=(true,aM)) (sp:=H9) (F:=ATV) (Hs:=BGL) (f:=66) (k:=2) A3V aZ a7 (aO rfl) ⟨_,_,Tryz.func66,rfl⟩ rfl λ_ _ _ _=>by kernel_rfl
def BBO:aP Tryz.prog 66 AX7:=BDS λd m x r h hb=>by
 clear hb;unfold H9 at h;split at h
 ·cases h
 rename_i hk;cases h;have hk:¬ (1<=x.1/\x.1<=12):=hk;unfold ATV BMC;refine cC (λh=>absurd (by omega) hk) λ_=>?_;refine cC (λh=>absurd (by omega) hk) λ_=>?_;refine cC (λh=>absurd (by omega) hk) λ_=>?_;refine cC (λh=>absurd (by omega) hk) λ_=>?_;refine cC (λh=>absurd (by omega) hk) λ_=>?_;refine cC (λh=>absurd (by omega) hk) λ_=>?_;refine cC (λh=>absurd (by omega) hk) λ_=>?_;refine cC (λh=>absurd (by omega) hk) λ_=>?_;refine cC (λh=>absurd (by omega) hk) λ_=>?_;refine cC (λh=>absurd (by omega) hk) λ_=>?_;refine cC (λh=>absurd (by omega) hk) λ_=>?_;refine cC (λh=>absurd (by omega) hk) λ_=>?_;rfl
def J4 (x:aB×aI×aV):List T:=[aH true aD x.1,aH true aK x.2.1,aH true aM x.2.2]
noncomputable def FD (x:aB×aI×aV):Option T:=match okX x.1 x.2.2 with
 | true=>some (Sh.enc [(true,aD),(false,.int .i64)] (bI x.1 x.2.1 x.2.2))
 | false=>none
noncomputable def EC:List T->Option T:=gA J4 FD
def XO (x y:aB×aI×aV) (h:J4 x=J4 y):x=y:=by
 simp only[J4,List.cons.injEq,and_true] at h;obtain ⟨h1,h2,h3⟩:=h;exact Prod.ext (mT (r:=aD) rfl h1) (Prod.ext (mT (r:=aK) rfl h2) (mT (r:=aM) rfl h3))
def AGM (d:aB) (m:aI) (x:aV):EC [aH true aD d,aH true aK m,aH true aM x]=FD (d,m,x):=fP XO (d,m,x)
def AXQ:aP Tryz.prog 66 EC:=⟨AXP.entry,λw own args vs r hG ho ha hg=>by
 obtain ⟨⟨d,m,k,x⟩,rfl,h⟩:=U2 hg;unfold FD at h;dsimp only at h;clear hg;by_cases c1:k=1
 ·subst c1;exact AXP.calls w own _ vs r hG ho ha ((AYA d m x).trans h)
 by_cases c2:k=2
 ·subst c2;exact BBP.calls w own _ vs r hG ho ha ((AYC d m x).trans h)
 by_cases c3:k=3
 ·subst c3;exact BBQ.calls w own _ vs r hG ho ha ((AYE d m x).trans h)
 by_cases c4:k=4
 ·subst c4;exact BBR.calls w own _ vs r hG ho ha ((AYG d m x).trans h)
 by_cases c5:k=5
 ·subst c5;exact BBS.calls w own _ vs r hG ho ha ((AYI d m x).trans h)
 by_cases c6:k=6
 ·subst c6;exact BBT.calls w own _ vs r hG ho ha ((AYK d m x).trans h)
 by_cases c7:k=7
 ·subst c7;exact BBU.calls w own _ vs r hG ho ha ((AYM d m x).trans h)
 by_cases c8:k=8
 ·subst c8;exact BBV.calls w own _ vs r hG ho ha ((AYO d m x).trans h)
 by_cases c9:k=9
 ·subst c9;exact BBW.calls w own _ vs r hG ho ha ((AYQ d m x).trans h)
 by_cases c10:k=10
 ·subst c10;exact A6B.calls w own _ vs r hG ho ha ((AO7 d m x).trans h)
 by_cases c11:k=11
 ·subst c11;exact A6C.calls w own _ vs r hG ho ha ((AO8 d m x).trans h)
 by_cases c12:k=12
 ·subst c12;exact A6D.calls w own _ vs r hG ho ha ((AO9 d m x).trans h)
 have hn:¬ (1<=k/\k<=12):=by omega
 have hr:some (Sh.enc [(true,aD),(false,.int .i64)] (bI d m (k,x)))=some r:=by
  split at h
  ·exact h
  ·cases h
 refine BBO.calls w own _ vs r hG ho ha ((AX8 (a0:=d) (a1:=m) (a2:=(k,x))).trans ?_);rw[<-hr];unfold H9 bI;rw[if_neg hn,if_pos hn]⟩
end Go.Pv
namespace Go.Pv
open Go Go.Proofs IntKind
structure JR (b:Nat) (d:aB):Prop where
 n:d.2.1.length<=b
 p:d.2.2.1.length<=b
 s:d.2.2.2.1.length<=b
 k:d.2.2.2.2.1.length<=b
 r:d.2.2.2.2.2.length<=b
abbrev BGJ (d:aB):Prop:=JR 40 d
def AXN {d:aB} (h:ZP d 40=true):BGJ d:=by
 simp only[ZP,ac,ah] at h;obtain ⟨⟨⟨⟨⟨a,b⟩,c⟩,e⟩,f⟩,_⟩:=h;exact ⟨by omega,by omega,by omega,by omega,by omega⟩
def BEW {e:aB} (hP:∀ q∈e.2.2.1,fM q=true) (hK:∀ q∈e.2.2.2.2.1,eU q=true) (n:e.2.1.length<=1000) (p:e.2.2.1.length<=1000) (s:e.2.2.2.1.length<=1000) (k:e.2.2.2.2.1.length<=1000) (r:e.2.2.2.2.2.length<=1000):vS e=true:=by
 unfold vS JH HJ;rw[List.all_eq_true.2 hP,List.all_eq_true.2 hK,ai n,ai p,ai s,ai k,ai r];rfl
variable {α:Type}
def A5P {p:α->Bool} {f:α->α} {l:List α}:(MK p f l).length=l.length:=by unfold MK;exact List.length_modify ..
def UN {α:Type} {p:α->Bool} {f:α->α}:∀ {l:List α} {a:α},a∈MK p f l->a∈l\/∃ b∈l,a=f b
 | [],_,h=>by simp[MK] at h
 | z::l,a,h=>by
  unfold MK at h;rw[List.findIdx_cons] at h;cases hz:p z with
  | true =>
   rw[hz] at h;rcases List.mem_cons.1 (show a∈f z::l from h) with e|h
   ·exact .inr ⟨z,am,e⟩
   ·exact .inl (List.mem_cons_of_mem _ h)
  | false =>
   rw[hz] at h;rcases List.mem_cons.1 (show a∈z::MK p f l from h) with e|h
   ·exact .inl (e ▸ am)
   ·rcases UN h with h|⟨b,h,e⟩
    ·exact .inl (List.mem_cons_of_mem _ h)
    ·exact .inr ⟨b,List.mem_cons_of_mem _ h,e⟩
def AXB {b:Nat} {d:aB} {x:aV} (h:JR b d):JR (b+1) (lE d x):=by
 obtain ⟨ln,lp,ls,lk,lr⟩:=h;have i1:∀ {α:Type} {f:α->α->Bool} {l:List α} {a:α},l.length<=b->(j3 f l a).length<=b+1:=λh=>by rw[AZQ];omega
 have i2:∀ {α:Type} {f:α->Bool} {l:List α},l.length<=b->(fY f l).length<=b+1:=λh=>Nat.le_trans ZJ (by omega);have i3:∀ {α:Type} {l:List α},l.length<=b->l.length<=b+1:=λh=>by omega
 have i4:∀ {α:Type} {p:α->Bool} {f:α->α} {l:List α},l.length<=b->(MK p f l).length<=b+1:=λh=>by rw[A5P];omega
 unfold lE;by_cases h1:x.1=1
 ·rw[if_pos h1];exact ⟨i1 ln,i3 lp,i3 ls,i3 lk,i3 lr⟩
 rw[if_neg h1];by_cases h2:x.1=2
 ·rw[if_pos h2];exact ⟨i2 ln,i3 lp,i3 ls,i3 lk,i3 lr⟩
 rw[if_neg h2];by_cases h3:x.1=3
 ·rw[if_pos h3];exact ⟨i3 ln,i1 lp,i3 ls,i3 lk,i3 lr⟩
 rw[if_neg h3];by_cases h4:x.1=4
 ·rw[if_pos h4];exact ⟨i3 ln,i2 lp,i3 ls,i3 lk,i3 lr⟩
 rw[if_neg h4];by_cases h5:x.1=5
 ·rw[if_pos h5];exact ⟨i3 ln,i4 lp,i3 ls,i3 lk,i3 lr⟩
 rw[if_neg h5];by_cases h6:x.1=6
 ·rw[if_pos h6];exact ⟨i3 ln,i4 lp,i3 ls,i3 lk,i3 lr⟩
 rw[if_neg h6];by_cases h7:x.1=7
 ·rw[if_pos h7];exact ⟨i3 ln,i3 lp,i1 ls,i3 lk,i3 lr⟩
 rw[if_neg h7];by_cases h8:x.1=8
 ·rw[if_pos h8];exact ⟨i3 ln,i3 lp,i2 ls,i3 lk,i3 lr⟩
 rw[if_neg h8];by_cases h9:x.1=9
 ·rw[if_pos h9];exact ⟨i3 ln,i3 lp,i3 ls,i1 lk,i3 lr⟩
 rw[if_neg h9];by_cases h10:x.1=10
 ·rw[if_pos h10];exact ⟨i3 ln,i3 lp,i3 ls,i2 lk,i3 lr⟩
 rw[if_neg h10];by_cases h11:x.1=11
 ·rw[if_pos h11];exact ⟨i3 ln,i3 lp,i3 ls,i3 lk,i1 lr⟩
 rw[if_neg h11];exact ⟨i3 ln,i3 lp,i3 ls,i3 lk,i2 lr⟩
def AXC {d:aB} {x:aV} (hD:JH d=true) (hp:fM (cV x)=true):JH (lE d x)=true:=by
 have a1:∀ q∈d.2.2.1,fM q=true:=λq hq=>List.all_eq_true.1 hD q hq;have mk:∀ {e:aB},(∀ q∈e.2.2.1,fM q=true)->JH e=true:=λh=>List.all_eq_true.2 h;unfold lE;by_cases h1:x.1=1
 ·rw[if_pos h1];exact mk a1
 rw[if_neg h1];by_cases h2:x.1=2
 ·rw[if_pos h2];exact mk a1
 rw[if_neg h2];by_cases h3:x.1=3
 ·rw[if_pos h3];exact mk λq hq=>(EN.1 hq).elim (λe=>by rw[e];exact hp) (a1 q)
 rw[if_neg h3];by_cases h4:x.1=4
 ·rw[if_pos h4];exact mk λq hq=>a1 q (MY hq)
 rw[if_neg h4];by_cases h5:x.1=5
 ·rw[if_pos h5];exact mk λq hq=>(UN hq).elim (a1 q) λ⟨b,_,e⟩=>by rw[e];exact hp
 rw[if_neg h5];by_cases h6:x.1=6
 ·rw[if_pos h6];exact mk λq hq=>(UN hq).elim (a1 q) λ⟨b,hb,e⟩=>by rw[e];exact a1 b hb
 rw[if_neg h6];by_cases h7:x.1=7
 ·rw[if_pos h7];exact mk a1
 rw[if_neg h7];by_cases h8:x.1=8
 ·rw[if_pos h8];exact mk a1
 rw[if_neg h8];by_cases h9:x.1=9
 ·rw[if_pos h9];exact mk a1
 rw[if_neg h9];by_cases h10:x.1=10
 ·rw[if_pos h10];exact mk a1
 rw[if_neg h10];by_cases h11:x.1=11
 ·rw[if_pos h11];exact mk a1
 rw[if_neg h11];exact mk a1
def AXD {d:aB} {x:aV} (hK:HJ d=true) (hk:eU (hU x)=true):HJ (lE d x)=true:=by
 have b1:∀ q∈d.2.2.2.2.1,eU q=true:=λq hq=>List.all_eq_true.1 hK q hq;have mk:∀ {e:aB},(∀ q∈e.2.2.2.2.1,eU q=true)->HJ e=true:=λh=>List.all_eq_true.2 h;unfold lE;by_cases h1:x.1=1
 ·rw[if_pos h1];exact mk b1
 rw[if_neg h1];by_cases h2:x.1=2
 ·rw[if_pos h2];exact mk b1
 rw[if_neg h2];by_cases h3:x.1=3
 ·rw[if_pos h3];exact mk b1
 rw[if_neg h3];by_cases h4:x.1=4
 ·rw[if_pos h4];exact mk b1
 rw[if_neg h4];by_cases h5:x.1=5
 ·rw[if_pos h5];exact mk b1
 rw[if_neg h5];by_cases h6:x.1=6
 ·rw[if_pos h6];exact mk b1
 rw[if_neg h6];by_cases h7:x.1=7
 ·rw[if_pos h7];exact mk b1
 rw[if_neg h7];by_cases h8:x.1=8
 ·rw[if_pos h8];exact mk b1
 rw[if_neg h8];by_cases h9:x.1=9
 ·rw[if_pos h9];exact mk λq hq=>(EN.1 hq).elim (λe=>by rw[e];exact hk) (b1 q)
 rw[if_neg h9];by_cases h10:x.1=10
 ·rw[if_pos h10];exact mk λq hq=>b1 q (MY hq)
 rw[if_neg h10];by_cases h11:x.1=11
 ·rw[if_pos h11];exact mk b1
 rw[if_neg h11];exact mk b1
def A8H {d:aB} (hD:JH d=true) (hK:HJ d=true) {b:Nat} (h:JR b d) (hb:b<=1000):vS d=true:=by
 obtain ⟨ln,lp,ls,lk,lr⟩:=h;exact BEW (λq hq=>List.all_eq_true.1 hD q hq) (λq hq=>List.all_eq_true.1 hK q hq) (by omega) (by omega) (by omega) (by omega) (by omega)
variable {m:aI}
def AWF {d:aB} {x:aV} (hc:vS d=true) (hp:fM (cV x)=true) (hk:eU (hU x)=true):EC [aH true aD d,aH true aK m,aH true aM x]=some (Sh.enc [(true,aD),(false,.int .i64)] (bI d m x)):=by
 rw[AGM];unfold FD;exact dO (by unfold okX;rw[hc,hp,hk];rfl)
def ARB {p:a8} (h4:InS aN p):fM p=true:=by
 obtain ⟨_,_,_,_,_,_,⟨⟨h5,h6,_⟩,h7,h8,h9⟩,_⟩:=h4;unfold fM EX lJ;simp only[ac,ah,List.all_eq_true];refine ⟨⟨⟨?_,?_⟩,?_,?_⟩,λq hq=>?_⟩
 ·exact h5
 ·exact h6
 ·exact h7
 ·exact h8
 ·obtain ⟨g1,g2,_⟩:=h9 q hq;exact ⟨g1,g2⟩
def ARA {k:aQ} (h:InS aF k):eU k=true:=by
 obtain ⟨_,_,⟨h5,h6,_⟩,_,⟨h7,h8,_⟩⟩:=h;unfold eU lJ;simp only[ac,ah];exact ⟨⟨h5,h6⟩,h7,h8⟩
end Go.Pv
namespace Go.Pv
open Go Go.Proofs IntKind
noncomputable def bV (m:aI):aB->List aV->aB×Int
 | d,[]=>(d,0)
 | d,x::l=>if (bI d m x).2=0 then bV m (bI d m x).1 l else (rI,(bI d m x).2)
noncomputable def mS (d:aB) (m:aI) (o:dJ):aB×Int :=
 if pU o.1=false then (rI,6)
 else if (o.2.length:Int)=0 then (rI,3)
 else if 32<(o.2.length:Int) then (rI,4)
 else if ¬ gQ d m=0 then (rI,gQ d m)
 else bV m d o.2
def lY {m:aI}:∀ {l:List aV} {d:aB},gQ d m=0->(bV m d l).2=0->gQ (bV m d l).1 m=0
 | [],d,hc,_=>hc
 | x::l,d,hc,h=>by
  unfold bV at h ⊢;split at h
  ·rename_i hx;rw[if_pos hx];have hd:=US hx;exact lY (by rw[hd.eq];exact hd.chk) h
  ·rename_i hx;exact absurd h hx
variable {m:aI}
def IV {d:aB} {x:aV} {l:List aV} (h:(bV m d (x::l)).2=0):wW d m x/\bV m d (x::l)=bV m (lE d x) l:=by
 have e:bV m d (x::l)=if (bI d m x).2=0 then bV m (bI d m x).1 l else (rI,(bI d m x).2):=rfl
 by_cases hx:(bI d m x).2=0
 ·have hd:=US hx;rw[if_pos hx,hd.eq] at e;exact ⟨hd,e⟩
 ·rw[if_neg hx] at e;rw[e] at h;exact absurd h hx
def DV {d:aB} {o:dJ} (h:(mS d m o).2=0):gQ d m=0/\mS d m o=bV m d o.2:=by
 unfold mS at h ⊢;split at h
 ·cases h
 split at h
 ·cases h
 split at h
 ·cases h
 split at h
 ·rename_i hc;exact absurd h hc
 ·rename_i h1 h2 h3 h4;exact ⟨Classical.byContradiction h4,by rw[if_neg h1,if_neg h2,if_neg h3,if_neg h4]⟩
def MF {m:aI}:∀ {l:List aV} {b:Nat} {d:aB},JR b d->JH d=true->HJ d=true->(∀ x∈l,fM (cV x)=true/\eU (hU x)=true)->(bV m d l).2=0->JR (b+l.length) (bV m d l).1/\JH (bV m d l).1=true/\HJ (bV m d l).1=true
 | [],b,d,h,hD,hK,_,_=>⟨h,hD,hK⟩
 | x::l,b,d,h,hD,hK,hE,h0=>by
  obtain ⟨hd,e⟩:=IV h0;rw[e] at h0 ⊢;obtain ⟨hp,hq⟩:=hE x am;have:=MF (AXB h) (AXC hD hp) (AXD hK hq) (λy hy=>hE y (List.mem_cons_of_mem _ hy)) h0;rw[List.length_cons,show b+(l.length+1)=b+1+l.length by omega];exact this
def okA (d:aB) (o:dJ):Bool:=(JH d&&HJ d)&&((decide (d.2.1.length<=900)&&decide (d.2.2.1.length<=900))&&(decide (d.2.2.2.1.length<=900)&&(decide (d.2.2.2.2.1.length<=900)&&decide (d.2.2.2.2.2.length<=900))))&&o.2.all λx=>fM (cV x)&&eU (hU x)
def BEV {d:aB} {o:dJ} {b:Nat} (h:JR b d) (hb:b<=900) (hD:JH d=true) (hK:HJ d=true) (hE:∀ x∈o.2,fM (cV x)=true/\eU (hU x)=true):okA d o=true:=by
 obtain ⟨a1,a2,a3,a4,a5⟩:=h;unfold okA;simp only[ac,ah,List.all_eq_true];exact ⟨⟨⟨hD,hK⟩,⟨by omega,by omega⟩,by omega,by omega,by omega⟩,hE⟩
def JI (d:aB) (o:dJ):Bool:=(JH d&&HJ d)&&o.2.all λx=>fM (cV x)&&eU (hU x)
def ACB {d:aB} {o:dJ} (hd:InS aD d) (ho:InS dB o):JI d o=true:=by
 unfold JI;rw[BEX hd,BEY hd,Bool.true_and,Bool.true_and];refine List.all_eq_true.2 λx hx=>?_;have h:InS aM x:=ho.2.2.2 x hx;rw[ARB h.2.2.2.2.1,ARA h.2.2.2.2.2.2.1];rfl
end Go.Pv
namespace Go.Pv
open Go Go.Proofs IntKind
noncomputable def BAB:Env:=Env.of [(1000000103,.mark),(64,.pure eM),(65,.pure cW),(66,.pure EC)]
def BAR:FuncId->Hint:=cA 41 [(12,.inv [.own 9 6 aD,.val 40 false (.int .i64)])] (λ_=>bA)
def ATD:aU Tryz.prog BAB:=.cons (x:=.mark) trivial (.cons D5 (.cons kH (.cons AXQ (.nil _))))
def BMJ:Sh:=[(true,aD),(false,Sy.int IntKind.i64)]
def BNB(a2:dJ):List (List T):=List.map aM.enc a2.2
def BNH(s5:List aB×Int×PUnit):List (List T):=List.map aD.enc s5.1
def BNL(R:T->Prop):Prop:=aX aD [] (i64.wrap ((↑0:Int)-1)) λ(y2:aB)=>R (T.b9 [aH true aD y2,pPP 0])
def AEM(a0:aB)(a1:aI)(a2:dJ)(R:T->Prop):Prop:=aJ BMF (eM [pPQ a2.1]) λ(y0:Bool)=>aC (!y0) (R (T.b9 [T.agg [pPQ ({data:=#[]}),T.sl false [],T.sl false [],T.sl false [], T.sl false [],T.sl false []], pPP 6])) (aC (decide ((↑(BNB a2).length:Int)=0)) (R (T.b9 [T.agg BMC, pPP 3])) (aC (decide (32<(↑(BNB a2).length:Int))) (R (T.b9 [T.agg BMC, pPP 4])) (aJ BME (cW [aH true aD a0,aH true aK a1]) λ(y1:Int)=>aC (!decide (y1=0)) (aC (!decide (y1=0)) (R (T.b9 [T.agg BMC, pPP y1])) (BNL R)) (jI aD [[pPQ a0.1,T.sl false (BNC a0), T.sl false (BM1 a0), T.sl false (BNA a0), T.sl false (BM8 a0), T.sl false (BMV a0)]] λ(y3:List aB)=>bD (List aB×Int×PUnit) (λX4 s5=>aC (decide (s5.2.1<(↑(BNB a2).length:Int))) (aX aM (BNB a2) s5.2.1 λ(y6:aV)=>aX aD (BNH s5) (i64.wrap ((↑(BNH s5).length:Int)-1)) λ(y7:aB)=>fH aD (BNH s5) (i64.wrap ((↑(BNH s5).length:Int)-1)).toNat 0 λ(y8:aB)=>aJ BMJ (EC [aH true aD y8,aH true aK a1, aH true aM y6]) λ(y9:aB×Int)=>aC (!decide (y9.2=0)) (aC (!decide (y9.2=0)) (R (T.b9 [T.agg BMD, pPP y9.2])) (BNL R)) (bQ (decide (((BNH s5).length+1)*136<=140737488355328) && decide ((BNH s5).length+1<=140737488355328)) (jI aD (List.map aD.enc s5.1 ++ [[pPQ y9.1.1, T.sl false (List.map bB.enc y9.1.2.1), T.sl false (List.map aN.enc y9.1.2.2.1), T.sl false (List.map bC.enc y9.1.2.2.2.1), T.sl false (List.map aF.enc y9.1.2.2.2.2.1), T.sl false (List.map aY.enc y9.1.2.2.2.2.2)]]) λ(y11:List aB)=>X4 (y11,i64.wrap (s5.2.1+1),())))) (aX aD (BNH s5) (i64.wrap ((↑(BNH s5).length:Int)-1)) λ(y12:aB)=>fH aD (BNH s5) (i64.wrap ((↑(BNH s5).length:Int)-1)).toNat 0 λ(y13:aB)=>R (T.b9 [aH true aD y13,pPP 0]))) (y3,0,())))))
abbrev AH5:Sh:=[(true,aD),(true,aK),(true,dB)]
noncomputable def FE (x:aB×aI×dJ):Option T:=match okA x.1 x.2.2 with
 | true=>some (Sh.enc [(true,aD),(false,.int .i64)] (mS x.1 x.2.1 x.2.2))
 | false=>none
noncomputable def sW:List T->Option T:=gS AH5 FE
def APA {a0 a1 a2}:sW [aH true aD a0,aH true aK a1,aH true dB a2]=FE (a0,a1,a2):=bJ (s:=AH5) rfl (a0,a1,a2) rfl
def A7Y:Of3 Tryz.prog 14 sW FE (cJ AH5) AEM:=AB5 (a1:=(true,aD)) (a2:=(true,aK)) (a3:=(true,dB)) (sp:=FE) (F:=AEM) (Hs:=BAR) (f:=14) (k:=8) ATD aZ a7 (aO rfl) ⟨_,_,Tryz.func14,rfl⟩ rfl λ_ _ _ _=>by kernel_rfl
def A94 {r:Sy} {l:List r.den} {i:Int} {k:Nat} {y:r.den} {K:r.den->Prop} (hi:i=(k:Int)) (hy:l[k]? = some y) (hk:K y):aX r (List.map r.enc l) i K :=
 ⟨y,by omega,by rw[hi,Int.toNat_natCast];exact rZ.2 hy,hk⟩
def A1G {l:List aB} {i k:Nat} {y:aB} {K:aB->Prop} (hi:i=k) (hy:l[k]? = some y) (hk:K y):fH aD (List.map aD.enc l) i 0 K :=
 ⟨_,y,by rw[hi];exact (rZ (r:=aD)).2 hy,al _,rfl,hk⟩
def A6E:aP Tryz.prog 14 sW:=A7Y λd m o r h hb=>by
 clear hb;obtain ⟨hc,rfl⟩:=j6 h;clear h;unfold okA at hc;simp only[ac,ah,List.all_eq_true] at hc;obtain ⟨⟨⟨hD,hK⟩,⟨l1,l2⟩,l3,l4,l5⟩,hE⟩:=hc;unfold AEM BNL BNH BNB BMV BNC BNA BM8 BM1 BMJ BMF BME BMD BMC;refine aG (s:=[(false,Sy.bool)]) (y:=pU o.1) (RY ..) ?_;refine iE (λhi=>?_) λhi=>?_
 ·unfold mS;rw[if_pos hi];rfl
 have hi:¬ pU o.1=false:=by rw[hi];decide
 have eO:(List.map aM.enc o.2).length=o.2.length:=ae ..;rw[eO];refine cC (λh1=>?_) λh1=>?_
 ·unfold mS;rw[if_neg hi,if_pos h1];rfl
 refine cC (λh2=>?_) λh2=>?_
 ·unfold mS;rw[if_neg hi,if_neg h1,if_pos h2];rfl
 refine aG (s:=[(false,.int .i64)]) (y:=gQ d m) (gC ..) ?_;have hA:mS d m o=if ¬ gQ d m=0 then (rI,gQ d m) else bV m d o.2:=by
  unfold mS;rw[if_neg hi,if_neg h1,if_neg h2]
 rw[hA];refine kU (λh3=>?_) λh3=>?_
 ·rw[if_pos h3];exact kU (λ_=>rfl) λh=>absurd h h3
 rw[if_neg (λh=>h h3)];clear hA;refine rX (r:=aD) rfl (l:=[d]) rfl ?_;refine bP o.2.length (λk s=>∃ (L:List aB) (c:aB),s=(L,(k:Int),())/\L.length=k+1/\L[k]? = some c/\bV m d o.2=bV m c (o.2.drop k)/\JR (900+k) c/\JH c=true/\HJ c=true) ⟨[d],d,rfl,rfl,rfl,by rw[List.drop_zero],⟨l1,l2,l3,l4,l5⟩,hD,hK⟩ ?_;rintro X k s hk ⟨L,c,rfl,hL,hLk,hF,hN,hcD,hcK⟩ hX;dsimp only;have hw:i64.wrap (((List.map aD.enc L).length:Int)-1)=(k:Int):=by
  rw[ae,hL];exact (bH _ (by omega) (by omega)).trans (by omega)
 rw[hw];refine cC (λhlt=>?_) λhge=>?_
 ·have hlt:k<o.2.length:=by omega
  rw[bK (r:=aM) hlt];refine A94 (r:=aD) rfl hLk (A1G (Int.toNat_natCast k) hLk ?_);obtain ⟨hp,hq⟩:=hE _ (ak hlt);refine aG (s:=[(true,aD),(false,.int .i64)]) (y:=bI c m o.2[k]) (AWF (A8H hcD hcK hN (by omega)) hp hq) ?_;have hF2:bV m d o.2=if (bI c m o.2[k]).2=0 then bV m (bI c m o.2[k]).1 (o.2.drop (k+1)) else (rI,(bI c m o.2[k]).2):=by
   rw[hF,List.drop_eq_getElem_cons hlt];rfl
  refine kU (λhe=>?_) λhe=>?_
  ·refine kU (λ_=>?_) λh=>absurd h he;rw[hF2,if_neg he];rfl
  ·rw[if_pos he] at hF2;have hd:=US he;refine ⟨by rw[ae,hL,ac];exact ⟨ai (by omega),ai (by omega)⟩,?_⟩;refine rX (r:=aD) rfl (l:=L++[(bI c m o.2[k]).1]) (by rw[List.map_append];rfl) ?_;refine hX _ hlt ⟨_,(bI c m o.2[k]).1,by rw[show i64.wrap ((k:Int)+1)=((k+1:Nat):Int) from bH _ (by omega) (by omega)],by rw[List.length_append,hL];rfl,?_,hF2,?_,?_,?_⟩
   ·rw[List.getElem?_append_right (by omega),hL];simp
   ·rw[hd.eq];exact AXB hN
   ·rw[hd.eq];exact AXC hcD hp
   ·rw[hd.eq];exact AXD hcK hq
 ·have hk2:o.2.drop k=[]:=List.drop_eq_nil_of_le (by omega);refine A94 (r:=aD) rfl hLk (A1G (Int.toNat_natCast k) hLk ?_);rw[hF,hk2];rfl
variable {m:aI}
def ANV {d:aB} {o:dJ} (h:okA d o=true):sW [aH true aD d,aH true aK m,aH true dB o]=some (Sh.enc [(true,aD),(false,.int .i64)] (mS d m o)):=by
 rw[APA];unfold FE;exact dO h
end Go.Pv
namespace Go.Pv
open Go Go.RowKit IntKind
section
variable {α : Type}
def SI {k:iII}:∀ {es:List (iII×α)},fF es k=none->k∉es.map λe=>e.1
 | [],_=>by simp
 | e::es,h=>by
  unfold fF at h;split at h
  ·cases h
  ·rename_i hne;have:=SI h;simp only[List.map_cons,List.mem_cons,not_or];exact ⟨λh'=>hne h'.symm,this⟩
def SJ {k s:iII} {x:α}:∀ {es:List (iII×α)},fF (es++[(k,x)]) s=match fF es s with|some y=>some y|none=>if k=s then some x else none
 | []=>by simp[fF]
 | e::es=>by
  simp only[List.cons_append,fF];split
  ·rfl
  ·exact SJ
def wY (id:α->iII) (l:List α) (k:Nat) (es:List (iII×α)):Prop :=
 (∀ s,fF es s=(l.take k).find? λx=>decide (id x=s))/\(es.map λe=>e.1).Nodup/\es.length<=k
def wY.zero (id:α->iII) (l:List α):wY id l 0 []:=⟨by simp[fF],by simp,by simp⟩
def wY.no {id:α->iII} {l:List α} {k:Nat} {es:List (iII×α)} (h:wY id l k es) (hk:k<l.length) {y:α} (hy:fF es (id l[k])=some y):wY id l (k+1) es:=by
 refine ⟨λs=>?_,h.2.1,by have:=h.2.2;omega⟩;rw[List.take_succ_eq_append_getElem hk,List.find?_append,<-h.1];cases hs:fF es s with
 | some z=>rfl
 | none =>
  rw[Option.none_or,List.find?_cons];split
  ·rename_i he;rw[of_decide_eq_true he,hs] at hy;cases hy
  ·rfl
def wY.yes {id:α->iII} {l:List α} {k:Nat} {es:List (iII×α)} (h:wY id l k es) (hk:k<l.length) (hy:fF es (id l[k])=none):wY id l (k+1) (es++[(id l[k],l[k])]):=by
 refine ⟨λs=>?_,?_,by have:=h.2.2;simp;omega⟩
 ·rw[List.take_succ_eq_append_getElem hk,List.find?_append,<-h.1,SJ];cases hs:fF es s with
  | some z=>rfl
  | none =>
   rw[Option.none_or,List.find?_cons];by_cases he:id l[k]=s
   ·simp[he]
   ·simp[he]
 ·rw[List.map_append,List.nodup_append];refine ⟨h.2.1,by simp,λa ha b hb e=>?_⟩;simp only[List.map_cons,List.map_nil,List.mem_singleton] at hb;subst hb e;exact SI hy ha
end
section
variable {β : Type} {lt : β -> β -> Prop}
structure A5B (lt:β->β->Prop):Prop where
 irr:∀ a,¬ lt a a
 tr:∀ {a b c},lt a b->lt b c->lt a c
 tot:∀ {a b},¬ lt a b->¬ lt b a->a=b
def JQ (lt:β->β->Prop) (begun:Bool) (last s:β):Prop:=begun=false\/lt last s
def oZ (lt:β->β->Prop) (all:List β) (begun:Bool) (last:β) (k:Nat) (nx:β) (sm:Bool):Prop :=
 (sm=false->∀ s∈all.take k,¬ JQ lt begun last s)/\(sm=true->nx∈all/\JQ lt begun last nx/\∀ s∈all.take k,JQ lt begun last s->¬ lt s nx)
def oZ.zero (all:List β) (begun:Bool) (last nx:β):oZ lt all begun last 0 nx false:=⟨by simp,by simp⟩
variable {begun sm:Bool}
def oZ.take (ho:A5B lt) {all:List β} {last:β} {k:Nat} {nx:β} (h:oZ lt all begun last k nx sm) (hk:k<all.length)
  (he:JQ lt begun last all[k]) (hc:sm=false\/lt all[k] nx):oZ lt all begun last (k+1) all[k] true:=by
 refine ⟨by simp,λ_=>⟨ak hk,he,λs hs hes=>?_⟩⟩;rw[List.take_succ_eq_append_getElem hk,List.mem_append] at hs;rcases hs with hs|hs
 ·cases sm with
  | false=>exact absurd hes (h.1 rfl s hs)
  | true =>
   have hlt:=hc.resolve_left (by simp);exact λh'=>(h.2 rfl).2.2 s hs hes (ho.tr h' hlt)
 ·rw[List.mem_singleton.1 hs];exact ho.irr _
def oZ.skip {all:List β} {last:β} {k:Nat} {nx:β} (h:oZ lt all begun last k nx sm) (hk:k<all.length)
  (hc:¬ JQ lt begun last all[k]\/(sm=true/\¬ lt all[k] nx)):oZ lt all begun last (k+1) nx sm:=by
 refine ⟨λe s hs=>?_,λe=>⟨(h.2 e).1,(h.2 e).2.1,λs hs hes=>?_⟩⟩
 ·rw[List.take_succ_eq_append_getElem hk,List.mem_append] at hs;rcases hs with hs|hs
  ·exact h.1 e s hs
  ·rw[List.mem_singleton.1 hs];rcases hc with hc|⟨hc,_⟩
   ·exact hc
   ·rw[hc] at e;cases e
 ·rw[List.take_succ_eq_append_getElem hk,List.mem_append] at hs;rcases hs with hs|hs
  ·exact (h.2 e).2.2 s hs hes
  ·rw[List.mem_singleton.1 hs] at hes ⊢;rcases hc with hc|⟨_,hc⟩
   ·exact absurd hes hc
   ·exact hc
def sS (lt:β->β->Prop) (all:List β) (D:β->Prop) (out:List β) (begun:Bool) (last:β):Prop :=
 out.Pairwise lt/\∀ s,s∈out↔s∈all/\D s/\¬ JQ lt begun last s
def sS.zero (all:List β) (D:β->Prop) (last:β):sS lt all D [] false last:=⟨List.Pairwise.nil,λs=>by simp[JQ]⟩
def yY (ho:A5B lt) {all:List β} {last nx:β} (h:oZ lt all begun last all.length nx true) {s:β} (hs:s∈all):¬ JQ lt true nx s↔¬ JQ lt begun last s\/s=nx:=by
 have h2:=(h.2 rfl).2;rw[List.take_length] at h2;have e1:JQ lt true nx s↔lt nx s:=by simp[JQ]
 rw[e1];constructor
 ·intro hn;by_cases he:JQ lt begun last s
  ·exact .inr (ho.tot (h2.2 s hs he) hn)
  ·exact .inl he
 ·rintro (hn|rfl)
  ·intro hl;refine hn ?_;rcases h2.1 with h3|h3
   ·exact .inl h3
   ·exact .inr (ho.tr h3 hl)
  ·exact ho.irr _
def sS.skip (ho:A5B lt) {all:List β} {D:β->Prop} {out:List β} {last nx:β} (h:sS lt all D out begun last) (hl:oZ lt all begun last all.length nx true) (hd:¬ D nx):sS lt all D out true nx:=by
 refine ⟨h.1,λs=>?_⟩;rw[h.2];constructor
 ·rintro ⟨h1,h2,h3⟩;exact ⟨h1,h2,(yY ho hl h1).2 (.inl h3)⟩
 ·rintro ⟨h1,h2,h3⟩;rcases (yY ho hl h1).1 h3 with h3|rfl
  ·exact ⟨h1,h2,h3⟩
  ·exact absurd h2 hd
def sS.take (ho:A5B lt) {all:List β} {D:β->Prop} {out:List β} {last nx:β} (h:sS lt all D out begun last) (hl:oZ lt all begun last all.length nx true) (hd:D nx):sS lt all D (out++[nx]) true nx:=by
 have hn:=hl.2 rfl;refine ⟨List.pairwise_append.2 ⟨h.1,by simp,λa ha b hb=>?_⟩,λs=>?_⟩
 ·rw[List.mem_singleton.1 hb];have ha':=(h.2 a).1 ha;refine Classical.byContradiction λhlt=>?_;have:¬ lt nx a:=λh'=>ha'.2.2 (by
   rcases hn.2.1 with h3|h3
   ·exact .inl h3
   ·exact .inr (ho.tr h3 h'))
  exact ha'.2.2 (by rw[ho.tot hlt this];exact hn.2.1)
 ·rw[List.mem_append,h.2,List.mem_singleton];constructor
  ·rintro (⟨h1,h2,h3⟩|rfl)
   ·exact ⟨h1,h2,(yY ho hl h1).2 (.inl h3)⟩
   ·exact ⟨hn.1,hd,(yY ho hl hn.1).2 (.inr rfl)⟩
  ·rintro ⟨h1,h2,h3⟩;rcases (yY ho hl h1).1 h3 with h3|rfl
   ·exact .inl ⟨h1,h2,h3⟩
   ·exact .inr rfl
def sS.done {all:List β} {D:β->Prop} {out:List β} {last nx:β} (h:sS lt all D out begun last) (hl:oZ lt all begun last all.length nx false):out.Pairwise lt/\∀ s,s∈out↔s∈all/\D s:=by
 refine ⟨h.1,λs=>?_⟩;rw[h.2];have:=hl.1 rfl;rw[List.take_length] at this;exact ⟨λ⟨a,b,_⟩=>⟨a,b⟩,λ⟨a,b⟩=>⟨a,b,this s a⟩⟩
open Classical in
open Classical in
end
end Go.Pv
namespace Go.Pv
open Go Go.Proofs Go.RowKit Go.Sort Go.Shelf IntKind
def toL (b:iII):List UInt8:=b.data.toList
def ofL (a:List UInt8):iII:=⟨a.toArray⟩
def pV (b:iII):ofL (toL b)=b:=by cases b;simp[ofL,toL]
def toL_ofL (a:List UInt8):toL (ofL a)=a:=by simp[ofL,toL]
def lD (q:List (List UInt8)->List (List UInt8)) (l:List iII):List iII:=(q (l.map toL)).map ofL
def HQ (q:List (List UInt8)->List (List UInt8)) (l:List iII):(q (l.map toL)).map (λa=>[T.v (encStr a)])=List.map Sy.str.enc (lD q l):=by
 unfold lD;rw[List.map_map];rfl
def eC (l:List (List UInt8)):List (List UInt8):=l.mergeSort λx y=>decide (x<=y)
def qZ (rows:List (List T)):Option (List (List T)):=(DW rows).map λl=>(eC l).map λa=>[.v (encStr a)]
def xZ (l:List iII) (K:List (List T)->Prop):eE (List (List T)) (qZ (List.map Sy.str.enc l)) K=K (List.map Sy.str.enc (lD eC l)):=by
 have e:qZ (List.map Sy.str.enc l)=some (List.map Sy.str.enc (lD eC l)):=by
  unfold qZ;rw[zW];exact congrArg some (HQ ..)
 rw[e];exact propext ⟨λ⟨y,h1,h2⟩=>by cases h1;exact h2,λh=>⟨_,rfl,h⟩⟩
def GR:cF Tryz.prog 71 (xK 1 qZ) :=
 ARH (f:=71) encStr (λ_=>rfl) DW CQ eC (λl=>by unfold eC;simp) ⟨_,Tryz.func71,rfl,rfl⟩
  (λbL cap zs w hH hb hs=>Any.slices_Sort_string Tryz.AKJ bL 0 cap zs w hH hb hs) (λp cap w=>Any.slices_Sort_string_none Tryz.AKJ p cap w)
def MS (l:List (List UInt8)):(Lib.compact l).length<=l.length:=by
 unfold Lib.compact;unfold Lib.compactUpTo;rw[ae];exact Nat.le_trans (List.length_filter_le _ _) (by simp)
def noA:List T->Bool
 | []=>true
 | _=>false
def eR:List (List T)->List T->Option (List (List T)):=GU Lib.compact noA true
def APE (l:List iII) (K:List iII->Prop):bU .str (eR (List.map Sy.str.enc l) []) K=K (lD Lib.compact l):=by
 have e:eR (List.map Sy.str.enc l) []=some (List.map Sy.str.enc (lD Lib.compact l)):=by
  unfold eR GU;simp only[noA,Bool.true_or,Bool.and_self];rw[zW];exact congrArg some (HQ ..)
 rw[e];exact propext ⟨λ⟨y,h1,h2⟩=>by rw[map_inj (Sy.dM .str) (Option.some.inj h1)];exact h2,λh=>⟨_,rfl,h⟩⟩
def A6J:cF Tryz.prog 111 (j0 1 eR) :=
 N3 (f:=111) Lib.compact MS rfl noA true #[] (λts w cx ρ σ vs h _ hl=>by
   cases ts with
   | nil=>exact List.length_eq_zero_iff.1 hl
   | cons=>cases h) ⟨_,Tryz.func111,rfl,rfl⟩
  (λbL cap zs w hH hb hs hc=>Any.slices_Compact_string Tryz.AKK bL 0 cap zs w hH (by omega) hc) (λ_ a cap w=>Any.slices_Compact_string_empty Tryz.AKK a cap w)
def BJL:Ren:=⟨λ|10=>110|6=>244|n=>n,λ|22=>62|23=>9|25=>31|n=>n,λ|n=>n⟩
def BJF:SlLaysH.n10 Tryz.prog BJL:={
 mixed:=aZ
 f6:=Exists.intro ("slices.IndexFunc[[]string,string]") ⟨by decide,Tryz.func244.trans (congrArg some (by kernel_rfl))⟩
 f10:=Exists.intro ("slices.DeleteFunc[[]string,string]") ⟨by decide,Tryz.func110.trans (congrArg some (by kernel_rfl))⟩
 t0:=by kernel_rfl
 a0:=λ_=>by kernel_rfl
 z0:=λ_=>by kernel_rfl
 v0:=λ_=>by kernel_rfl
 t3:=by kernel_rfl
 a3:=λ_=>by kernel_rfl
 z3:=λ_=>by kernel_rfl
 v3:=λ_=>by kernel_rfl
 t4:=by kernel_rfl
 a4:=λ_=>by kernel_rfl
 z4:=λ_=>by kernel_rfl
 v4:=λ_=>by kernel_rfl
 t22:=by kernel_rfl
 a22:=λ_=>by kernel_rfl
 z22:=λ_=>by kernel_rfl
 v22:=λ_=>by kernel_rfl
 a23:=λ_=>by kernel_rfl
 z23:=λ_=>by kernel_rfl
 t25:=by kernel_rfl
 a25:=λ_=>by kernel_rfl
 z25:=λ_=>by kernel_rfl
 v25:=λ_=>by kernel_rfl }
def UT (x:List UInt8):Bool:=x.isEmpty
def JA (x:List UInt8) (W:World):FnGives Tryz.prog 112 #[] #[encStr x] (.bool (UT x)) W:=by
 show Calls Tryz.prog 112 #[encStr x] W _
 go_enter Tryz.func112,Tryz.ntmps112
 go_wp2
 all_goals (go_ret;exact ⟨rfl,0,rfl⟩)
def DX (l:List (List UInt8)):List (List UInt8):=l.filter λx=>!UT x
def AF1:List T->Bool
 | [.fn f [] []]=>decide (f=112)
 | _=>false
def eT:List (List T)->List T->Option (List (List T)):=GU DX AF1 false
def APF (l:List iII) (hl:l≠[]) (K:List iII->Prop):bU .str (eT (List.map Sy.str.enc l) [.fn 112 [] []]) K=K (lD DX l):=by
 have e:eT (List.map Sy.str.enc l) [.fn 112 [] []]=some (List.map Sy.str.enc (lD DX l)):=by
  have h0:(List.map Sy.str.enc l).isEmpty=false:=by cases l;exact absurd rfl hl;rfl
  unfold eT GU;rw[h0];show (DW (List.map Sy.str.enc l)).map _=_;rw[zW];exact congrArg some (HQ ..)
 rw[e];exact propext ⟨λ⟨y,h1,h2⟩=>by rw[map_inj (Sy.dM .str) (Option.some.inj h1)];exact h2,λh=>⟨_,rfl,h⟩⟩
def A6K:cF Tryz.prog 110 (j0 1 eT) :=
 N3 (f:=110) DX (λl=>List.length_filter_le _ _) rfl AF1 false #[.func (.func 112) #[] #[]] (λts w cx ρ σ vs h hr hl=>by
   unfold AF1 at h;split at h
   ·rename_i f;have hf:f=112:=of_decide_eq_true h;subst hf
    match vs,hl with
    | [v],_ =>
     have h0:=hr 0 (by simp);simp only[List.getElem_cons_zero,List.getD_cons_zero] at h0;cases h0 with
     | p _ _ h0 =>
      cases h0 with
      | fn _ _ _ va vb h1 h2 _ _ =>
       have e1:va = #[]:=Array.eq_empty_of_size_eq_zero h1;have e2:vb = #[]:=Array.eq_empty_of_size_eq_zero h2;subst e1 e2;rfl
   ·cases h) ⟨_,Tryz.func110,rfl,rfl⟩
  (λbL cap zs w hH hb hs hc=>by
   have h:=AnyE.slices_DeleteFunc BJF encStr (λ_=>rfl) UT 112 #[] (enters_of Tryz.func112 (by kernel_rfl) rfl) [] (λw=>by kernel_rfl) bL 0 cap zs.toArray w (λW x _=>JA x W) (λn os dk x _=>JA x _) hH (by simpa using (by omega)) (by simpa using hc);change Calls Tryz.prog 110 _ _ _ at h;simpa [DX] using h) (λh=>by cases h)
def BE5:Ren:=⟨λ|4=>293|n=>n,λ|20=>20|22=>62|25=>9|n=>n,λ|n=>n⟩
def BJG:Lays8.n4 Tryz.prog BE5:={
 mixed:=aZ
 f4:=Exists.intro ("slices.Grow[[]string,string]") ⟨by decide,Tryz.func293.trans (congrArg some (by kernel_rfl))⟩
 t0:=by kernel_rfl
 a0:=λ_=>by kernel_rfl
 z0:=λ_=>by kernel_rfl
 v0:=λ_=>by kernel_rfl
 t3:=by kernel_rfl
 a3:=λ_=>by kernel_rfl
 z3:=λ_=>by kernel_rfl
 v3:=λ_=>by kernel_rfl
 t4:=by kernel_rfl
 a4:=λ_=>by kernel_rfl
 z4:=λ_=>by kernel_rfl
 v4:=λ_=>by kernel_rfl
 t9:=by kernel_rfl
 a9:=λ_=>by kernel_rfl
 z9:=λ_=>by kernel_rfl
 v9:=λ_=>by kernel_rfl
 t20:=by kernel_rfl
 a20:=λ_=>by kernel_rfl
 z20:=λ_=>by kernel_rfl
 v20:=λ_=>by kernel_rfl
 t22:=by kernel_rfl
 a22:=λ_=>by kernel_rfl
 z22:=λ_=>by kernel_rfl
 v22:=λ_=>by kernel_rfl }
def BHZ:∃ i0,Tryz.prog.info? (BE5.t 25)=some i0/\i0.zero=some (.string ⟨#[]⟩)/\i0.size=1/\i0.bytes=16:=by
 have h:(Tryz.prog.info? (BE5.t 25)).map (λi=>(i.zero,i.size,i.bytes))=some (some (Value.string ⟨#[]⟩),1,16):=by kernel_rfl
 simp only[aa,Prod.mk.injEq] at h;obtain ⟨i,h1,h2,h3,h4⟩:=h;exact ⟨i,h1,h2,h3,h4⟩
def A6Y:cF Tryz.prog 293 (I4 1 16) :=
 ARO BJG BHZ (by decide) rfl (by decide) ⟨_,Tryz.func293,rfl,rfl⟩
end Go.Pv
namespace Go.Pv
open Go Go.Proofs IntKind
def dR:List (List T)->Option (List (List T)):=qZ
def AG0 (l:List iII) (K:List (List T)->Prop):eE (List (List T)) (dR (List.map Sy.str.enc l)) K=K (List.map Sy.str.enc (lD eC l)):=xZ l K
def AX2:cF Tryz.prog 71 (xK 1 dR):=GR
noncomputable def AS7:Env:=Env.of [(1000000062,.mark),(1000000279,.mark),(71,.perm 1 dR),(111,.grow 1 eR),(110,.grow 1 eT),(293,.room 1 16)]
def AV5:FuncId->Hint:=cA 223 [(3,.PZ 4),(11,.PZ 4)] (λ_=>bA)
def AEG:aU Tryz.prog AS7:=.cons (x:=.mark) trivial (.cons (x:=.mark) trivial (.cons AX2 (.cons A6J (.cons A6K (aU.cons (x:=.room 1 16) A6Y (.nil _))))))
def BMH:List T:=[T.fn 112 [] []]
def BMT(a0:aV):List (List T):=[[T.sl false [[pPQ a0.2.2.2.2.2.2.1.1], [pPQ a0.2.2.2.2.2.2.1.2.1]]], [T.sl false (List.map Sy.str.enc a0.2.2.2.2.2.2.1.2.2.1)], [T.sl false (List.map Sy.str.enc a0.2.2.2.2.2.2.1.2.2.2.2)]]
def BM3(y6:List iII):List (List T):=List.map Sy.str.enc y6
def BMS(y0:List (List T))(R:T->Prop):Prop:=bU Sy.str (eR y0 []) λ(y1:List iII)=>bU Sy.str (eT (BM3 y1) BMH) λ(y2:List iII)=>R (T.sl false (BM3 y2))
def BM2(a0:aV)(R:T->Prop):Prop:=bQ true (eE (List (List T)) (dR [[pPQ a0.2.1].reverse]) λ(y3:List (List T))=>BMS y3 R)
def BMQ(a0:aV)(R:T->Prop):Prop:=aC (decide (a0.1=9)) (aX Sy.str.li (BMT a0) 0 λ(y42:List iII)=>fH Sy.str.li (BMT a0) (Int.toNat 0) 0 λ(y43:List iII)=>aC (decide (i64.wrap (0+(↑(BM3 y43).length:Int))<0)) (nN 162) (aX Sy.str.li (BMT a0) (i64.wrap (0+1)) λ(y44:List iII)=>fH Sy.str.li (BMT a0) 1 0 λ(y45:List iII)=>aC (decide (i64.wrap (i64.wrap (0+(↑(BM3 y43).length:Int)) + (↑(BM3 y45).length:Int)) < 0)) (nN 162) (aX Sy.str.li (BMT a0) (i64.wrap (i64.wrap (0+1)+1)) λ(y46:List iII)=>fH Sy.str.li (BMT a0) 2 0 λ(y47:List iII)=>aC (decide (i64.wrap (i64.wrap (i64.wrap (0+(↑(BM3 y43).length:Int)) + (↑(BM3 y45).length:Int)) + (↑(BM3 y47).length:Int)) < 0)) (nN 162) (bQ (decide (0 <= i64.wrap (i64.wrap (i64.wrap (0+(↑(BM3 y43).length:Int)) + (↑(BM3 y45).length:Int)) + (↑(BM3 y47).length:Int))) && decide ((i64.wrap (i64.wrap (i64.wrap (0+(↑(BM3 y43).length:Int)) + (↑(BM3 y45).length:Int)) + (↑(BM3 y47).length:Int))).toNat * 16 <= 140737488355328) && decide ((i64.wrap (i64.wrap (i64.wrap (0+(↑(BM3 y43).length:Int)) + (↑(BM3 y45).length:Int)) + (↑(BM3 y47).length:Int))).toNat <= 140737488355328)) (aX Sy.str.li (BMT a0) 0 λ(y48:List iII)=>fH Sy.str.li (BMT a0) (Int.toNat 0) 0 λ(y49:List iII)=>bQ (eY 1 (BM3 y49) && decide ((0+(BM3 y49).length)*16 <= 140737488355328) && decide (0+(BM3 y49).length<=140737488355328)) (aX Sy.str.li (BMT a0) (i64.wrap (0+1)) λ(y50:List iII)=>fH Sy.str.li (BMT a0) 1 0 λ(y51:List iII)=>bQ (eY 1 (BM3 y51) && decide ((([]++List.map Sy.str.enc y49).length + (BM3 y51).length) * 16 <= 140737488355328) && decide (([]++List.map Sy.str.enc y49).length + (BM3 y51).length <= 140737488355328)) (aX Sy.str.li (BMT a0) (i64.wrap (i64.wrap (0+1)+1)) λ(y52:List iII)=>fH Sy.str.li (BMT a0) 2 0 λ(y53:List iII)=>bQ (eY 1 (BM3 y53) && decide ((([]++List.map Sy.str.enc y49 ++ List.map Sy.str.enc y51).length + (BM3 y53).length) * 16 <= 140737488355328) && decide (([]++List.map Sy.str.enc y49 ++ List.map Sy.str.enc y51).length + (BM3 y53).length <= 140737488355328)) (bQ (eY 1 ([]++List.map Sy.str.enc y49 ++ List.map Sy.str.enc y51 ++ List.map Sy.str.enc y53) && true && decide (([]++List.map Sy.str.enc y49 ++ List.map Sy.str.enc y51 ++ List.map Sy.str.enc y53).length * 16 <= 140737488355328) && decide (([]++List.map Sy.str.enc y49 ++ List.map Sy.str.enc y51 ++ List.map Sy.str.enc y53).length <= 140737488355328)) (eE (List (List T)) (dR ([]++List.map Sy.str.enc y49 ++ List.map Sy.str.enc y51 ++ List.map Sy.str.enc y53)) λ(y54:List (List T))=>bU Sy.str (eR y54 []) λ(y55:List iII)=>bU Sy.str (eT (BM3 y55) BMH) λ(y56:List iII)=>R (T.sl false (BM3 y56))))))))))) (BM2 a0 R)
def BM7(a0:aV)(R:T->Prop):Prop:=bQ true (eE (List (List T)) (dR [[pPQ a0.2.2.2.2.1.1].reverse, [pPQ a0.2.2.2.2.1.2.2.2.1].reverse]) λ(y12:List (List T))=>BMS y12 R)
def BM9(a0:aV)(R:T->Prop):Prop:=aC (decide (a0.1=7)) (bQ true (eE (List (List T)) (dR [[pPQ a0.2.2.2.2.2.1.1].reverse, [pPQ a0.2.2.2.2.2.1.2.1].reverse, [pPQ a0.2.2.2.2.2.1.2.2.1].reverse]) λ(y30:List (List T))=>BMS y30 R)) (BM2 a0 R)
def BND(a0:aV)(R:T->Prop):Prop:=aC (decide (a0.1=1)) (bQ true (eE (List (List T)) (dR [[pPQ a0.2.2.2.1.1].reverse, [pPQ a0.2.2.2.1.2.2].reverse]) λ(y0:List (List T))=>BMS y0 R)) (BM2 a0 R)
def BNF(a0:aV)(R:T->Prop):Prop:=bQ true (eE (List (List T)) (dR [[pPQ a0.2.2.2.2.2.2.2.2.1].reverse, [pPQ a0.2.2.2.2.2.2.2.2.2].reverse]) λ(y78:List (List T))=>BMS y78 R)
def L3(a0:aV)(R:T->Prop):Prop:=aC (decide (a0.1=1)) (BND a0 R) (aC (decide (a0.1=2)) (BND a0 R) (aC (decide (a0.1=3)) (aC (decide (a0.1=3)) (BM7 a0 R) (BM2 a0 R)) (aC (decide (a0.1=4)) (aC (decide (a0.1=3)) (BM7 a0 R) (BM2 a0 R)) (aC (decide (a0.1=5)) (BM7 a0 R) (aC (decide (a0.1=6)) (bQ true (eE (List (List T)) (dR [[pPQ a0.2.1].reverse, [pPQ a0.2.2.1].reverse]) λ(y27:List (List T))=>BMS y27 R)) (aC (decide (a0.1=7)) (BM9 a0 R) (aC (decide (a0.1=8)) (BM9 a0 R) (aC (decide (a0.1=9)) (BMQ a0 R) (aC (decide (a0.1=10)) (BMQ a0 R) (aC (decide (a0.1=11)) (BNF a0 R) (aC (decide (a0.1=12)) (BNF a0 R) (R (T.sl false [])))))))))))))
abbrev PE:Sh:=[(true,aM)]
def AFV {zs:List (List UInt8)} (h:zs≠[]):Lib.compact zs≠[]:=by
 cases zs with
 | nil=>exact absurd rfl h
 | cons a l =>
  unfold Lib.compact Lib.compactUpTo;intro e;rw[List.map_eq_nil_iff,List.filter_eq_nil_iff] at e;exact e 0 (List.mem_range.2 (by simp)) (Lib.keeps_lt_one _ 0 (by omega))
def ALQ {q:List (List UInt8)->List (List UInt8)} (hq:∀ l,l≠[]->q l≠[]) {l:List iII} (h:l≠[]):lD q l≠[]:=by
 unfold lD;rw[Ne,List.map_eq_nil_iff];exact hq _ (by rw[Ne,List.map_eq_nil_iff];exact h)
def ARU {l:List (List UInt8)} (h:l≠[]):eC l≠[]:=by
 unfold eC;intro e;have:=congrArg List.length e;rw[List.length_mergeSort] at this;exact h (List.length_eq_zero_iff.1 this)
def nE (l:List iII):List iII:=lD DX (lD Lib.compact (lD eC l))
def AQE:nE []=[]:=by
 have e:eC []=[]:=by unfold eC;simp
 unfold nE lD;rw[List.map_nil,e];rfl
variable {y:List iII}{K:List iII->Prop}
def S8 {l:List (List iII)} {rows:List (List T)} {i:Int} {k:Nat} (hr:rows=List.map (Sy.li .str).enc l) (hi:i=(k:Int)) (hy:l[k]? = some y) (hk:K y):aX (.li .str) rows i K :=
 ⟨y,by omega,by rw[hr,hi,Int.toNat_natCast];exact rZ.2 hy,hk⟩
def S4 {l:List (List iII)} {rows:List (List T)} {k:Nat} (hr:rows=List.map (Sy.li .str).enc l) (hy:l[k]? = some y) (hk:K y):fH (.li .str) rows k 0 K :=
 ⟨_,y,by rw[hr];exact rZ.2 hy,al _,rfl,hk⟩
def OB {L:List iII} (hL:L≠[]) {rows:List (List T)} (hr:rows=List.map Sy.str.enc L) {R:T->Prop} (h:R (T.sl false (List.map Sy.str.enc (nE L)))) :
  eE (List (List T)) (dR rows) λy0=>bU Sy.str (eR y0 []) λy1=>bU Sy.str (eT (List.map Sy.str.enc y1) [T.fn 112 [] []]) λy2=>R (T.sl false (List.map Sy.str.enc y2)):=by
 subst hr;rw[AG0,APE,APF _ (ALQ (λl=>AFV) (ALQ (λl=>ARU) hL))];exact h
def cE (x:aV):List iII :=
 if x.1=1 then [x.2.2.2.1.1,x.2.2.2.1.2.2]
 else if x.1=2\/x.1=4\/x.1=8\/x.1=10 then [x.2.1]
 else if x.1=3\/x.1=5 then [x.2.2.2.2.1.1,x.2.2.2.2.1.2.2.2.1]
 else if x.1=6 then [x.2.1,x.2.2.1]
 else if x.1=7 then [x.2.2.2.2.2.1.1,x.2.2.2.2.2.1.2.1,x.2.2.2.2.2.1.2.2.1]
 else if x.1=9 then ([x.2.2.2.2.2.2.1.1,x.2.2.2.2.2.2.1.2.1]++x.2.2.2.2.2.2.1.2.2.1)++x.2.2.2.2.2.2.1.2.2.2.2
 else if x.1=11\/x.1=12 then [x.2.2.2.2.2.2.2.2.1,x.2.2.2.2.2.2.2.2.2]
 else []
def ACC (x:aV):Bool:=decide (x.2.2.2.2.2.2.1.2.2.1.length<=1000000)&&decide (x.2.2.2.2.2.2.1.2.2.2.2.length<=1000000)
def uW (x:aV):Option T:=match ACC x with
 | true=>some (T.sl false (List.map Sy.str.enc (nE (cE x))))
 | false=>none
noncomputable def q7:List T->Option T:=gS PE uW
def ABB {a0}:q7 [aH true aM a0]=uW (a0):=bJ (s:=PE) rfl (a0) rfl
def AQ6:w5 Tryz.prog 70 q7 uW (cJ PE) L3:=j5 (a1:=(true,aM)) (sp:=uW) (F:=L3) (Hs:=AV5) (f:=70) (k:=9) AEG aZ a7 (aO rfl) ⟨_,_,Tryz.func70,rfl⟩ rfl λ_ _=>by kernel_rfl
def VV {c:Bool} {a r:T} (h:(match c with|true=>some a|false=>none)=some r):c=true/\a=r:=by
 cases c with
 | true=>exact ⟨rfl,Option.some.inj h⟩
 | false=>cases h
def UH {l:List iII}:eY 1 (List.map Sy.str.enc l)=true:=tJ .str l
def AO3:aP Tryz.prog 70 q7:=AQ6 λx r h hb=>by
 clear hb;obtain ⟨hp,rfl⟩:=VV h;clear h;unfold ACC at hp;rw[ac,ah,ah] at hp;obtain ⟨hp1,hp2⟩:=hp;have go:∀ {L:List iII} {rows:List (List T)},cE x=L->L≠[]->rows=List.map Sy.str.enc L->eE (List (List T)) (dR rows) λy0=>bU Sy.str (eR y0 []) λy1=>bU Sy.str (eT (List.map Sy.str.enc y1) [T.fn 112 [] []]) λy2=>T.sl false (List.map Sy.str.enc y2)=T.sl false (List.map Sy.str.enc (nE (cE x))):=λ{L} {rows} e hn hr=>by
  rw[e];exact OB (R:=λy=>y=T.sl false (List.map Sy.str.enc (nE L))) hn hr rfl
 unfold L3 BNF BND BM9 BM7 BMQ BM2 BMS BM3 BMT BMH;have e1:x.1=1->cE x=[x.2.2.2.1.1,x.2.2.2.1.2.2]:=λh=>by simp only[cE,h,if_true]
 have e2:x.1=2\/x.1=4\/x.1=8\/x.1=10->cE x=[x.2.1]:=λh=>by
  unfold cE;rw[if_neg (by omega),if_pos h]
 have e3:x.1=3\/x.1=5->cE x=[x.2.2.2.2.1.1,x.2.2.2.2.1.2.2.2.1]:=λh=>by
  unfold cE;rw[if_neg (by omega),if_neg (by omega),if_pos h]
 have e6:x.1=6->cE x=[x.2.1,x.2.2.1]:=λh=>by
  unfold cE;rw[if_neg (by omega),if_neg (by omega),if_neg (by omega),if_pos h]
 have e7:x.1=7->cE x=[x.2.2.2.2.2.1.1,x.2.2.2.2.2.1.2.1,x.2.2.2.2.2.1.2.2.1]:=λh=>by
  unfold cE;rw[if_neg (by omega),if_neg (by omega),if_neg (by omega),if_neg (by omega),if_pos h]
 have e9:x.1=9->cE x=([x.2.2.2.2.2.2.1.1,x.2.2.2.2.2.2.1.2.1]++x.2.2.2.2.2.2.1.2.2.1)++x.2.2.2.2.2.2.1.2.2.2.2:=λh=>by
  unfold cE;rw[if_neg (by omega),if_neg (by omega),if_neg (by omega),if_neg (by omega),if_neg (by omega),if_pos h]
 have e11:x.1=11\/x.1=12->cE x=[x.2.2.2.2.2.2.2.2.1,x.2.2.2.2.2.2.2.2.2]:=λh=>by
  unfold cE;rw[if_neg (by omega),if_neg (by omega),if_neg (by omega),if_neg (by omega),if_neg (by omega),if_neg (by omega),if_pos h]
 refine cC (λh=>cC (λ_=>⟨rfl,go (e1 h) (by simp) rfl⟩) λh'=>absurd h h') λn1=>?_;refine cC (λh=>cC (λh'=>by omega) λ_=>⟨rfl,go (e2 (by omega)) (by simp) rfl⟩) λn2=>?_;refine cC (λh=>cC (λ_=>⟨rfl,go (e3 (by omega)) (by simp) rfl⟩) λh'=>absurd h h') λn3=>?_;refine cC (λh=>cC (λh'=>by omega) λ_=>⟨rfl,go (e2 (by omega)) (by simp) rfl⟩) λn4=>?_;refine cC (λh=>⟨rfl,go (e3 (by omega)) (by simp) rfl⟩) λn5=>?_;refine cC (λh=>⟨rfl,go (e6 (by omega)) (by simp) rfl⟩) λn6=>?_;refine cC (λh=>cC (λ_=>⟨rfl,go (e7 (by omega)) (by simp) rfl⟩) λh'=>absurd h h') λn7=>?_;refine cC (λh=>cC (λh'=>by omega) λ_=>⟨rfl,go (e2 (by omega)) (by simp) rfl⟩) λn8=>?_;refine cC (λh=>cC (λ_=>?_) λh'=>absurd h h') λn9=>?_
 ·have w1:i64.wrap (0+1)=1:=rfl;have w2:i64.wrap (1+1)=2:=rfl;rw[e9 h];generalize hA:[x.2.2.2.2.2.2.1.1,x.2.2.2.2.2.2.1.2.1]=A;have hAl:A.length=2:=by rw[<-hA];rfl
  clear e1 e2 e3 e6 e7 e11;generalize x.2.2.2.2.2.2.1.2.2.1=B at hp1 ⊢;generalize x.2.2.2.2.2.2.1.2.2.2.2=C at hp2 ⊢;have l1:i64.wrap (0+((List.map Sy.str.enc A).length:Int))=2:=by rw[ae,hAl];rfl
  have l2:i64.wrap (2+((List.map Sy.str.enc B).length:Int))=2+(B.length:Int):=by rw[ae];exact bH _ (by omega) (by omega)
  have l3:i64.wrap (2+(B.length:Int)+((List.map Sy.str.enc C).length:Int))=2+(B.length:Int)+(C.length:Int):=by rw[ae];exact bH _ (by omega) (by omega)
  have hR:[[T.sl false [[pPQ x.2.2.2.2.2.2.1.1],[pPQ x.2.2.2.2.2.2.1.2.1]]],[T.sl false (List.map Sy.str.enc B)],[T.sl false (List.map Sy.str.enc C)]]=List.map (Sy.li .str).enc [A,B,C]:=by rw[<-hA];rfl
  rw[hR];rw[w1,w2];refine S8 rfl rfl (k:=0) rfl (S4 rfl rfl ?_);rw[l1];refine cC (λh=>by omega) λ_=>?_;refine S8 rfl rfl (k:=1) rfl (S4 rfl rfl ?_);rw[l2];refine cC (λh=>by omega) λ_=>?_;refine S8 rfl rfl (k:=2) rfl (S4 rfl rfl ?_);rw[l3];refine cC (λh=>by omega) λ_=>?_;refine ⟨by rw[ac,ac];exact ⟨⟨ai (by omega),ai (by omega)⟩,ai (by omega)⟩,?_⟩;refine S8 rfl rfl (k:=0) rfl (S4 (k:=0) rfl rfl ?_);refine ⟨by rw[ac,ac];exact ⟨⟨UH,ai (by simp;omega)⟩,ai (by simp;omega)⟩,?_⟩;refine S8 rfl rfl (k:=1) rfl (S4 rfl rfl ?_);refine ⟨by rw[ac,ac];exact ⟨⟨UH,ai (by simp;omega)⟩,ai (by simp;omega)⟩,?_⟩;refine S8 rfl rfl (k:=2) rfl (S4 rfl rfl ?_);refine ⟨by rw[ac,ac];exact ⟨⟨UH,ai (by simp;omega)⟩,ai (by simp;omega)⟩,?_⟩;have eA:[]++List.map Sy.str.enc A++List.map Sy.str.enc B++List.map Sy.str.enc C=List.map Sy.str.enc (A++B++C):=by rw[List.map_append,List.map_append];rfl
  rw[eA];refine ⟨by rw[ac,ac,ac];exact ⟨⟨⟨UH,rfl⟩,ai (by simp;omega)⟩,ai (by simp;omega)⟩,?_⟩;exact OB (R:=λy=>y=T.sl false (List.map Sy.str.enc (nE (A++B++C)))) (by
   intro e;have:=congrArg List.length e;simp only[List.length_append,hAl,List.length_nil] at this;omega) rfl rfl
 refine cC (λh=>cC (λh'=>by omega) λ_=>⟨rfl,go (e2 (by omega)) (by simp) rfl⟩) λn10=>?_;refine cC (λh=>⟨rfl,go (e11 (by omega)) (by simp) rfl⟩) λn11=>?_;refine cC (λh=>⟨rfl,go (e11 (by omega)) (by simp) rfl⟩) λn12=>?_;have e:cE x=[]:=by
  unfold cE;rw[if_neg (by omega),if_neg (by omega),if_neg (by omega),if_neg (by omega),if_neg (by omega),if_neg (by omega),if_neg (by omega)]
 rw[e,AQE];rfl
end Go.Pv
namespace Go.Pv
open Go Go.Proofs Go.Lib IntKind
def Y5:∀ {l m:List (List UInt8)},l.Pairwise (· < ·)->m.Pairwise (· < ·)->(∀ a,a∈l↔a∈m)->l=m
 | [],[],_,_,_=>rfl
 | [],b::m,_,_,h=>absurd ((h b).2 am) (by simp)
 | a::l,[],_,_,h=>absurd ((h a).1 am) (by simp)
 | a::l,b::m,h1,h2,h=>by
  rw[List.pairwise_cons] at h1 h2;have e:a=b:=by
   rcases List.mem_cons.1 ((h a).1 am) with e|e
   ·exact e
   ·rcases List.mem_cons.1 ((h b).2 am) with e'|e'
    ·exact e'.symm
    ·exact absurd (List.lt_trans (h1.1 b e') (h2.1 a e)) (List.lt_irrefl _)
  subst e;refine congrArg (a :: ·) (Y5 h1.2 h2.2 λx=>⟨λhx=>?_,λhx=>?_⟩)
  ·rcases List.mem_cons.1 ((h x).1 (List.mem_cons_of_mem _ hx)) with e|e
   ·subst e;exact absurd (h1.1 _ hx) (List.lt_irrefl _)
   ·exact e
  ·rcases List.mem_cons.1 ((h x).2 (List.mem_cons_of_mem _ hx)) with e|e
   ·subst e;exact absurd (h2.1 _ hx) (List.lt_irrefl _)
   ·exact e
def TC (l:List (List UInt8)):(eC l).Pairwise (· <= ·):=by
 unfold eC;have h:=List.pairwise_mergeSort (le:=λx y:List UInt8=>decide (x<=y)) (λa b c h1 h2=>ai (List.le_trans (of_decide_eq_true h1) (of_decide_eq_true h2))) (λa b=>by
  rw[Bool.or_eq_true,ah,ah];exact List.le_total a b) l
 exact h.imp λh=>of_decide_eq_true h
def DK {l:List (List UInt8)} {a:List UInt8}:a∈eC l↔a∈l:=by unfold eC;exact List.mem_mergeSort
def AFW {l:List (List UInt8)} (h:l.Pairwise (· <= ·)):(Lib.compact l).Pairwise (· < ·):=by
 unfold Lib.compact compactUpTo;rw[List.pairwise_map,List.pairwise_filter];refine List.Pairwise.imp_of_mem ?_ List.pairwise_lt_range;intro i j hi hj hij ki kj;rw[List.mem_range] at hi hj;have get:∀ k (hk:k<l.length),l.toArray[k]! = l[k]:=λk hk=>by simp[hk]
 have le:∀ p q (hp:p<l.length) (hq:q<l.length),p<=q->l[p]<=l[q]:=λp q hp hq hpq=>by
  by_cases e:p=q
  ·subst e;exact List.le_refl _
  ·exact List.pairwise_iff_getElem.1 h p q hp hq (by omega)
 unfold keeps at kj;rw[ah] at kj;have hne:l.toArray[j]! ≠ l.toArray[j-1]! := kj.resolve_left (by omega);rw[get j hj,get (j-1) (by omega)] at hne;rw[get i hi,get j hj];have a1:=le i (j-1) hi (by omega) (by omega);have a2:=le (j-1) j (by omega) hj (by omega);have a3:l[j-1]<l[j]:=Decidable.byContradiction λhn=>hne (List.le_antisymm (List.not_lt.1 hn) a2);exact Decidable.byContradiction λhn=>absurd (List.le_trans (List.not_lt.1 hn) a1) (List.not_le.2 a3)
def IW {l:List (List UInt8)} {a:List UInt8}:a∈Lib.compact l↔a∈l:=by
 have get:∀ k (hk:k<l.length),l.toArray[k]! = l[k]:=λk hk=>by simp[hk]
 have all:∀ n k,k<=n->(hk:k<l.length)->l[k]∈Lib.compact l:=by
  intro n
  induction n with
  | zero =>
   intro k hk hl;have:k=0:=by omega
   subst this;unfold Lib.compact compactUpTo;exact List.mem_map.2 ⟨0,List.mem_filter.2 ⟨List.mem_range.2 hl,keeps_lt_one _ 0 (by omega)⟩,get 0 hl⟩
  | succ n ih =>
   intro k hk hl;by_cases hkk:keeps l.toArray k=true
   ·unfold Lib.compact compactUpTo;exact List.mem_map.2 ⟨k,List.mem_filter.2 ⟨List.mem_range.2 hl,hkk⟩,get k hl⟩
   ·unfold keeps at hkk;rw[ah,not_or] at hkk;have e:l.toArray[k]! = l.toArray[k-1]! := Decidable.byContradiction hkk.2;rw[get k hl,get (k-1) (by omega)] at e;rw[e];exact ih (k-1) (by omega) (by omega)
 constructor
 ·intro h;unfold Lib.compact compactUpTo at h;obtain ⟨k,h1,rfl⟩:=List.mem_map.1 h;have hk:=List.mem_range.1 (List.mem_filter.1 h1).1;rw[get k hk];exact ak hk
 ·intro h;obtain ⟨k,hk,rfl⟩:=List.mem_iff_getElem.1 h;exact all k k (al _) hk
def AN0 {l:List (List UInt8)} {a:List UInt8}:a∈DX l↔a∈l/\a≠[]:=by
 unfold DX UT;rw[List.mem_filter];cases a<;>simp
def AQF (l:List iII):(nE l).map toL=DX (Lib.compact (eC (l.map toL))):=by
 have e:∀ m:List (List UInt8),(m.map ofL).map toL=m:=λm=>by
  rw[List.map_map];exact (List.map_congr_left λa _=>toL_ofL a).trans (List.map_id _)
 unfold nE lD;rw[e,e,e]
def AQD (l:List iII) (a:List UInt8):a∈(nE l).map toL↔a∈l.map toL/\a≠[]:=by
 rw[AQF,AN0,IW,DK]
end Go.Pv
namespace Go.Pv
open Go Go.Proofs IntKind
def ltB (a b:iII):Prop:=toL a<toL b
def AFL (l:List iII):List iII:=lD Lib.compact (lD eC l)
def toL_viaL (q:List (List UInt8)->List (List UInt8)) (l:List iII):(lD q l).map toL=q (l.map toL):=by
 unfold lD;rw[List.map_map];exact (List.map_congr_left λa _=>toL_ofL a).trans (List.map_id _)
def A5N (l:List iII):(AFL l).Pairwise ltB:=by
 have h:((AFL l).map toL).Pairwise (· < ·):=by
  unfold AFL;rw[toL_viaL,toL_viaL];exact AFW (TC _)
 show (AFL l).Pairwise λa b=>toL a<toL b;exact List.pairwise_map.1 h
def AK {l:List iII} {s:iII}:toL s∈l.map toL↔s∈l :=
 ⟨λh=>by obtain ⟨b,hb,e⟩:=List.mem_map.1 h;rw[<-pV s,<-e,pV];exact hb,λh=>List.mem_map.2 ⟨s,h,rfl⟩⟩
def AWI {l:List iII} {s:iII}:s∈AFL l↔s∈l:=by
 rw[<-AK];unfold AFL;rw[toL_viaL,toL_viaL,IW,DK,AK]
def A5M {l m:List iII} (h1:l.Pairwise ltB) (h2:m.Pairwise ltB) (h:∀ s,s∈l↔s∈m):l=m:=by
 have e:l.map toL=m.map toL:=Y5 (List.pairwise_map.2 h1) (List.pairwise_map.2 h2) λa=>by
  constructor
  ·intro ha;obtain ⟨b,hb,rfl⟩:=List.mem_map.1 ha;exact AK.2 ((h b).1 hb)
  ·intro ha;obtain ⟨b,hb,rfl⟩:=List.mem_map.1 ha;exact AK.2 ((h b).2 hb)
 have:=congrArg (List.map ofL) e;rw[List.map_map,List.map_map] at this;have u:∀ k:List iII,List.map (ofL∘toL) k=k:=λk=>(List.map_congr_left λa _=>pV a).trans (List.map_id _);rwa[u,u] at this
end Go.Pv
namespace Go.Pv
open Go Go.Proofs IntKind
end Go.Pv
namespace Go.Pv
open Go Go.Proofs IntKind
def AZL {l:List iII} {a:iII}:BC5 l a=true↔a∈l:=by
 unfold BC5;simp
end Go.Pv
namespace Go.Pv
open Go Go.Proofs IntKind
def A8V {l:List iII} (h:l.Nodup):(lD eC l).Pairwise ltB:=by
 have h1:((lD eC l).map toL).Pairwise (· <= ·):=by rw[toL_viaL];exact TC _
 have h2:((lD eC l).map toL).Nodup:=by
  rw[toL_viaL];unfold eC;have hn:(l.map toL).Nodup:=by
   unfold List.Nodup;rw[List.pairwise_map];exact h.imp λ{a b} hne e=>hne (by rw[<-pV a,e,pV])
  exact (List.mergeSort_perm _ _).nodup_iff.2 hn
 have h3:((lD eC l).map toL).Pairwise (· < ·):=(h1.and h2).imp λ{a b} h=>Classical.byContradiction λhn=>h.2 (List.le_antisymm h.1 (List.not_lt.1 hn));show (lD eC l).Pairwise λa b=>toL a<toL b;exact List.pairwise_map.1 h3
def A23 {l:List iII} {s:iII}:s∈lD eC l↔s∈l:=by
 rw[<-AK,toL_viaL,DK,AK]
def DN (l:List aV):List iII:=AFL (l.flatMap λe=>nE (cE e))
def A8Y (l:List aV):(DN l).Pairwise ltB:=A5N _
def PY {l:List aV} {s:iII}:s∈DN l↔∃ e∈l,s∈nE (cE e):=by
 unfold DN;rw[AWI,List.mem_flatMap]
def AFX (a b:List aV):List iII:=(DN a).filter λs=>BC5 (DN b) s
def A5Y (a b:List aV):(AFX a b).Pairwise ltB:=(A8Y a).filter _
def ZE {a b:List aV} {s:iII}:s∈AFX a b↔s∈DN a/\s∈DN b:=by
 unfold AFX;rw[List.mem_filter,AZL]
def AWX {a b:List aV} {ks:List iII} (hn:ks.Nodup) (hm:∀ s,s∈ks↔s∈DN a/\s∈DN b):lD eC ks=AFX a b :=
 A5M (A8V hn) (A5Y a b) λs=>by rw[A23,hm,ZE]
def ALR:List iII->iII->List iII
 | [],s=>[s]
 | a::l,s=>if cR a s=true then a::ALR l s else if a=s then a::l else s::a::l
end Go.Pv
namespace Go.Pv
open Go Go.Proofs IntKind
def BFY (x:List iII×iII):Option T:=match decide (x.1.length<=1000000000) with
 | true=>some (T.sl false (List.map Sy.str.enc (ALR x.1 x.2)))
 | false=>none
def ARC (o:dJ):Bool:=decide (o.2.length<=100)&&o.2.all ACC
def AK1 {o:dJ} (h:ARC o=true):o.2.length<=100/\∀ e∈o.2,ACC e=true:=by
 unfold ARC at h;rw[ac,ah] at h;exact ⟨h.1,List.all_eq_true.1 h.2⟩
def P0 (q:List (List UInt8)->List (List UInt8)) (l:List iII) (h:∀ m,(q m).length<=m.length):(lD q l).length<=l.length:=by
 unfold lD;rw[ae];exact Nat.le_trans (h _) (by simp)
def SY (l:List iII):(nE l).length<=l.length:=by
 unfold nE;refine Nat.le_trans (P0 _ _ λm=>List.length_filter_le _ _) (Nat.le_trans (P0 _ _ MS) (P0 _ _ λm=>by unfold eC;simp))
def OA {x:aV} (h:ACC x=true):(cE x).length<=2000010:=by
 unfold ACC at h;rw[ac,ah,ah] at h;unfold cE
 repeat' split
 all_goals simp only[List.length_cons,List.length_nil,List.length_append]
 all_goals omega
noncomputable def A3I:Env:=Env.of []
def A4Y:FuncId->Hint:=cA 24 [(4,.inv [.val 5 false (.int .i64)]),(10,.inv [.val 7 false (.int .i64)])] (λ_=>bA)
def AMN:aU Tryz.prog A3I:=.nil _
def BMK:T:=pPR false
def BMP:T:=pPR true
def BNP(y2:aV):List (List T):=List.map aA.li.enc y2.2.2.2.2.1.2.2.2.2.2.2.1.2
def TY(a0:dJ)(a1:Int)(R:T->Prop):Prop:=aC (decide (100<(↑(ByteArray.size a0.1):Int))) (R BMK) (aC (decide (a1<(↑(BNB a0).length:Int))) (R BMK) (bD (Int×PUnit) (λX0 s1=>aC (decide (s1.1<(↑(BNB a0).length:Int))) (aX aM (BNB a0) s1.1 λ(y2:aV)=>aC (decide (40<(↑(List.map Sy.str.enc y2.2.2.2.2.2.2.1.2.2.1).length:Int))) (R BMK) (aC (decide (40<(↑(List.map Sy.str.enc y2.2.2.2.2.2.2.1.2.2.2.2).length:Int))) (R BMK) (aC (decide (100 < (↑(List.map aA.enc y2.2.2.2.2.1.2.2.2.2.2.2.1.1).length : Int))) (R BMK) (aC (decide (20 < (↑(BNP y2).length : Int))) (R BMK) (bD (Int×PUnit) (λX3 s4=>aC (decide (s4.1 < (↑(BNP y2).length : Int))) (aX aA.li (BNP y2) s4.1 λ(y5:List aR)=>aC (decide (100<(↑(List.map aA.enc y5).length:Int))) (R BMK) (BNE X3 s4)) (BNE X0 s1)) (0,())))))) (R BMP)) (0,())))
abbrev V8:Sh:=[(true,dB),(false,(Sy.int IntKind.i64))]
def NA (x:aV):Bool:=decide ((x.2.2.2.2.2.2.1.2.2.1.length:Int)<=40)&&(decide ((x.2.2.2.2.2.2.1.2.2.2.2.length:Int)<=40)&&(decide ((x.2.2.2.2.1.2.2.2.2.2.2.1.1.length:Int)<=100)&&(decide ((x.2.2.2.2.1.2.2.2.2.2.2.1.2.length:Int)<=20)&&x.2.2.2.2.1.2.2.2.2.2.2.1.2.all λh=>decide ((h.length:Int)<=100))))
def r4 (o:dJ) (n:Int):Bool:=decide ((o.1.size:Int)<=100)&&(decide ((o.2.length:Int)<=n)&&o.2.all NA)
def FH (x:dJ×Int):Option T:=match decide (x.2<=1000) with
 | true=>some (Sh.enc lB (r4 x.1 x.2))
 | false=>none
noncomputable def AB:List T->Option T:=gS V8 FH
def NX {a0 a1}:AB [aH true dB a0,pPP a1]=FH (a0,a1):=bJ (s:=V8) rfl (a0,a1) rfl
def A0V:sP Tryz.prog 24 AB FH (cJ V8) TY:=iH (a1:=(true,dB)) (a2:=(false,(Sy.int IntKind.i64))) (sp:=FH) (F:=TY) (Hs:=A4Y) (f:=24) (k:=8) AMN aZ a7 (aO rfl) ⟨_,_,Tryz.func24,rfl⟩ rfl λ_ _ _=>by kernel_rfl
def AXR:aP Tryz.prog 24 AB:=A0V λo n r h hb=>by
 clear hb;obtain ⟨hn,rfl⟩:=VV h;clear h;have hn:n<=1000:=of_decide_eq_true hn;have no:r4 o n=false->pPR false=Sh.enc lB (r4 o n):=λh=>by rw[h];rfl
 unfold TY BNP BNB BNE BMP BMK;simp only[ae];refine jW (λh=>no (by unfold r4;rw[aj h];rfl)) λg1=>?_;refine jW (λh=>no (by unfold r4;rw[aj h,Bool.false_and,Bool.and_false])) λg2=>?_;refine bP o.2.length (λk s=>s=((k:Int),())/\r4 o n=(o.2.drop k).all NA) ⟨rfl,by unfold r4;rw[ai g1,ai g2];rfl⟩ ?_;rintro X k s hk ⟨rfl,he⟩ hX;dsimp only;refine cC (λhlt=>?_) λhge=>?_
 ·have hlt:k<o.2.length:=by omega
  rw[MA hlt] at he;rw[bK (r:=aM) hlt];generalize o.2[k]=x at he ⊢;unfold NA at he;refine jW (λh=>no (by rw[he,aj h];rfl)) λk1=>?_;rw[ai k1,Bool.true_and] at he;refine jW (λh=>no (by rw[he,aj h];rfl)) λk2=>?_;rw[ai k2,Bool.true_and] at he;refine jW (λh=>no (by rw[he,aj h];rfl)) λk3=>?_;rw[ai k3,Bool.true_and] at he;refine jW (λh=>no (by rw[he,aj h];rfl)) λk4=>?_;rw[ai k4,Bool.true_and] at he;generalize x.2.2.2.2.1.2.2.2.2.2.2.1.2=H at k4 he ⊢;refine bP H.length (λj q=>q=((j:Int),())/\r4 o n=((H.drop j).all (λh=>decide ((h.length:Int)<=100))&&(o.2.drop (k+1)).all NA)) ⟨rfl,by rw[List.drop_zero];exact he⟩ ?_;rintro Y j q hj ⟨rfl,hq⟩ hY;dsimp only;refine cC (λhlt2=>?_) λhge2=>?_
  ·have hlt2:j<H.length:=by omega
   rw[MA hlt2] at hq;rw[bK (r:=.li aA) hlt2];refine jW (λh=>no (by rw[hq,aj h];rfl)) λk5=>?_;rw[ai k5,Bool.true_and] at hq;exact hY _ hlt2 ⟨by rw[show i64.wrap ((j:Int)+1)=((j+1:Nat):Int) from bH _ (by omega) (by omega)],hq⟩
  ·rw[List.drop_eq_nil_of_le (by omega),List.all_nil,Bool.true_and] at hq;exact hX _ hlt ⟨by rw[show i64.wrap ((k:Int)+1)=((k+1:Nat):Int) from bH _ (by omega) (by omega)],hq⟩
 ·rw[he,List.drop_eq_nil_of_le (by omega)];rfl
def ZQ {o:dJ} {n:Int} (hn:n<=100) (h:r4 o n=true):ARC o=true:=by
 unfold r4 at h;rw[ac,ac,ah,ah] at h;obtain ⟨_,h2,h3⟩:=h;unfold ARC;rw[ac];refine ⟨ai (by omega),List.all_eq_true.2 λx hx=>?_⟩;have hx:=List.all_eq_true.1 h3 x hx;unfold NA at hx;rw[ac,ac,ah,ah] at hx;unfold ACC;rw[ac];exact ⟨ai (by omega),ai (by omega)⟩
end Go.Pv
namespace Go.Pv
open Go Go.Proofs IntKind
def A2W:Value->Value->Bool
 | .int k a,.int j b=>decide (k=j)&&decide (a=b)
 | .string a,.string b=>decide (a=b)
 | .bool a,.bool b=>a == b
 | .slice none a b,.slice none c d=>a == c&&b == d
 | _,_=>false
def AFE {α:Type} (f:α->α->Bool):List α->List α->Bool
 | [],[]=>true
 | a::l,b::m=>f a b&&AFE f l m
 | _,_=>false
def TA:Nat->T->T->Bool
 | n+1,.v a,.v b=>A2W a b
 | n+1,.agg l,.agg m=>AFE (TA n) l m
 | n+1,.sl f l,.sl g m=>(f == g)&&AFE (AFE (TA n)) l m
 | _,_,_=>false
def EB:List (List T×T)->List T->Option T
 | [],_=>none
 | (A,r)::l,args=>match AFE (TA 20) args A with
  | true=>some r
  | false=>EB l args
def A2X {a b:Value} (h:A2W a b=true):a=b:=by
 unfold A2W at h;split at h
 ·simp only[ac,ah] at h;rw[h.1,h.2]
 ·rw[of_decide_eq_true h]
 ·rw[eq_of_beq h]
 ·simp only[ac,beq_iff_eq] at h;rw[h.1,h.2]
 ·cases h
def DS {α:Type} {f:α->α->Bool} (hf:∀ a b,f a b=true->a=b):∀ l m,AFE f l m=true->l=m
 | [],[],_=>rfl
 | [],_::_,h=>by cases h
 | _::_,[],h=>by cases h
 | a::l,b::m,h=>by
  simp only[AFE,ac] at h;rw[hf a b h.1,DS hf l m h.2]
def PH:∀ (n:Nat) (a b:T),TA n a b=true->a=b
 | 0,_,_,h=>by simp[TA] at h
 | n+1,a,b,h=>by
  unfold TA at h;split at h
  ·rename_i e;rw[A2X h]
  ·rename_i e;cases e;rw[DS (PH n) _ _ h]
  ·rename_i e;cases e;simp only[ac,beq_iff_eq] at h;rw[h.1,DS (DS (PH n)) _ _ h.2]
  ·cases h
def z8:∀ {l:List (List T×T)} {args:List T} {r:T},EB l args=some r->(args,r)∈l
 | [],_,_,h=>by cases h
 | (A,q)::l,args,r,h=>by
  unfold EB at h;split at h
  ·rename_i e;cases h;rw[DS (PH 20) _ _ e];exact am
  ·exact List.mem_cons_of_mem _ (z8 h)
variable {P:Program}{g:List T->Option T}
def GV {f:FuncId} (hg:aP P f g) {l:List (List T×T)} (h:∀ x∈l,g x.1=some x.2):aP P f (EB l):=⟨hg.entry,λw own args vs r hG ho ha hr=>hg.calls w own args vs r hG ho ha (h _ (z8 hr))⟩
end Go.Pv
namespace Go.Pv
open Go Go.Proofs IntKind
def ZT:fG Tryz.prog 318 (qC 1 8):=kG aZ a7 ⟨_,_,Tryz.func318,rfl⟩ ⟨λR=>by kernel_rfl,λfl R=>by kernel_rfl,λfl a rows R=>by kernel_rfl⟩
def RA:fG Tryz.prog 103 (qC 3 40):=kG aZ a7 ⟨_,_,Tryz.func103,rfl⟩ ⟨λR=>by kernel_rfl,λfl R=>by kernel_rfl,λfl a rows R=>by kernel_rfl⟩
def RD:fG Tryz.prog 104 (qC 6 72):=kG aZ a7 ⟨_,_,Tryz.func104,rfl⟩ ⟨λR=>by kernel_rfl,λfl R=>by kernel_rfl,λfl a rows R=>by kernel_rfl⟩
def Q9:fG Tryz.prog 105 (qC 3 40):=kG aZ a7 ⟨_,_,Tryz.func105,rfl⟩ ⟨λR=>by kernel_rfl,λfl R=>by kernel_rfl,λfl a rows R=>by kernel_rfl⟩
def AJ2:fG Tryz.prog 136 (qC 2 16):=kG aZ a7 ⟨_,_,Tryz.func136,rfl⟩ ⟨λR=>by kernel_rfl,λfl R=>by kernel_rfl,λfl a rows R=>by kernel_rfl⟩
def ZU:fG Tryz.prog 137 (qC 1 24):=kG aZ a7 ⟨_,_,Tryz.func137,rfl⟩ ⟨λR=>by kernel_rfl,λfl R=>by kernel_rfl,λfl a rows R=>by kernel_rfl⟩
def RC:fG Tryz.prog 106 (qC 18 208):=kG aZ a7 ⟨_,_,Tryz.func106,rfl⟩ ⟨λR=>by kernel_rfl,λfl R=>by kernel_rfl,λfl a rows R=>by kernel_rfl⟩
def RB:fG Tryz.prog 107 (qC 5 88):=kG aZ a7 ⟨_,_,Tryz.func107,rfl⟩ ⟨λR=>by kernel_rfl,λfl R=>by kernel_rfl,λfl a rows R=>by kernel_rfl⟩
def ZV:fG Tryz.prog 243 (qC 1 16):=kG aZ a7 ⟨_,_,Tryz.func243,rfl⟩ ⟨λR=>by kernel_rfl,λfl R=>by kernel_rfl,λfl a rows R=>by kernel_rfl⟩
def AKC:FuncId->Bool:=λf=>[260,86,128,69,184,191,150].contains f
noncomputable def AZY:Env:=Env.of [(83,.pure sV),(318,.fresh (qC 1 8)),(103,.fresh (qC 3 40)),(104,.fresh (qC 6 72)),(105,.fresh (qC 3 40)),(136,.fresh (qC 2 16)),(137,.fresh (qC 1 24)),(106,.fresh (qC 18 208)),(107,.fresh (qC 5 88)),(243,.fresh (qC 1 16)),(280,.grow 3 kL),(5000000000+38,.mark)]
def APY:aU Tryz.prog AZY:=aU.cons (x:=.pure sV) xI (aU.cons (x:=.fresh (qC 1 8)) ZT (aU.cons (x:=.fresh (qC 3 40)) RA (aU.cons (x:=.fresh (qC 6 72)) RD (aU.cons (x:=.fresh (qC 3 40)) Q9 (aU.cons (x:=.fresh (qC 2 16)) AJ2 (aU.cons (x:=.fresh (qC 1 24)) ZU (aU.cons (x:=.fresh (qC 18 208)) RC (aU.cons (x:=.fresh (qC 5 88)) RB (aU.cons (x:=.fresh (qC 1 16)) ZV (aU.cons (x:=.grow 3 kL) CY (aU.cons (x:=.mark) trivial (aU.nil _))))))))))))
noncomputable def gEd:List T->Option T:=OU Tryz.prog 400 AKC AZY 40 66
def BB5:aP Tryz.prog 66 gEd:=mA aZ a7 400 AKC APY 40 (oA (k:=39) (fn:=_) (c:=_) (by kernel_rfl) Tryz.func66 rfl (by kernel_rfl))
def i0:T:=.v (.int .i64 0)
def s0:T:=.v (.string ⟨#[]⟩)
def n0:T:=.v (.slice none 0 0)
def l0:T:=.sl false []
def BHK:List T:=[T.agg [pPQ (⟨#[72,49]⟩),T.sl false [[pPQ (⟨#[65,49]⟩),pPP 2,pPQ (⟨#[66,49]⟩)],[pPQ (⟨#[66,49]⟩),pPP 1,s0]],T.sl false [[pPQ (⟨#[80,49]⟩),pPP 1,pPP 4,pPQ (⟨#[65,49]⟩),s0,i0,n0,n0,s0,i0,pPP 5,i0,i0,i0,i0,i0,i0,i0]],l0,l0,l0],T.agg [n0,n0],T.agg [pPP 1,s0,s0,pPQ (⟨#[65,50]⟩),pPP 2,pPQ (⟨#[66,49]⟩),s0,i0,i0,s0,s0,i0,n0,n0,s0,i0,i0,i0,i0,i0,i0,i0,i0,i0,s0,s0,s0,i0,i0,i0,s0,s0,n0,i0,n0,i0,s0,s0]]
def BHN:T:=T.b9 [T.agg [pPQ (⟨#[72,49]⟩),T.sl false [[pPQ (⟨#[65,49]⟩),pPP 2,pPQ (⟨#[66,49]⟩)],[pPQ (⟨#[65,50]⟩),pPP 2,pPQ (⟨#[66,49]⟩)],[pPQ (⟨#[66,49]⟩),pPP 1,s0]],T.sl false [[pPQ (⟨#[80,49]⟩),pPP 1,pPP 4,pPQ (⟨#[65,49]⟩),s0,i0,l0,l0,s0,i0,pPP 5,i0,i0,i0,i0,i0,i0,i0]],l0,l0,l0],i0]
def BJC:gEd BHK=some BHN:=by kernel_rfl
def BHL:List T:=[T.agg [pPQ (⟨#[72,49]⟩),T.sl false [[pPQ (⟨#[65,49]⟩),pPP 2,pPQ (⟨#[66,49]⟩)],[pPQ (⟨#[65,50]⟩),pPP 2,pPQ (⟨#[66,49]⟩)],[pPQ (⟨#[66,49]⟩),pPP 1,s0]],T.sl false [[pPQ (⟨#[80,49]⟩),pPP 1,pPP 4,pPQ (⟨#[65,49]⟩),s0,i0,l0,l0,s0,i0,pPP 5,i0,i0,i0,i0,i0,i0,i0]],l0,l0,l0],T.agg [n0,n0],T.agg [pPP 6,pPQ (⟨#[80,49]⟩),pPQ (⟨#[65,50]⟩),s0,i0,s0,s0,i0,i0,s0,s0,i0,n0,n0,s0,i0,i0,i0,i0,i0,i0,i0,i0,i0,s0,s0,s0,i0,i0,i0,s0,s0,n0,i0,n0,i0,s0,s0]]
def BHO:T:=T.b9 [T.agg [pPQ (⟨#[72,49]⟩),T.sl false [[pPQ (⟨#[65,49]⟩),pPP 2,pPQ (⟨#[66,49]⟩)],[pPQ (⟨#[65,50]⟩),pPP 2,pPQ (⟨#[66,49]⟩)],[pPQ (⟨#[66,49]⟩),pPP 1,s0]],T.sl false [[pPQ (⟨#[80,49]⟩),pPP 1,pPP 4,pPQ (⟨#[65,50]⟩),s0,i0,l0,l0,s0,i0,pPP 5,i0,i0,i0,i0,i0,i0,i0]],l0,l0,l0],i0]
def BJD:gEd BHL=some BHO:=by kernel_rfl
def BHM:List T:=[T.agg [pPQ (⟨#[72,49]⟩),T.sl false [[pPQ (⟨#[65,49]⟩),pPP 2,pPQ (⟨#[66,49]⟩)],[pPQ (⟨#[65,50]⟩),pPP 2,pPQ (⟨#[66,49]⟩)],[pPQ (⟨#[66,49]⟩),pPP 1,s0]],T.sl false [[pPQ (⟨#[80,49]⟩),pPP 1,pPP 4,pPQ (⟨#[65,49]⟩),s0,i0,l0,l0,s0,i0,pPP 5,i0,i0,i0,i0,i0,i0,i0]],l0,l0,l0],T.agg [n0,n0],T.agg [pPP 4,pPQ (⟨#[80,57]⟩),s0,s0,i0,s0,s0,i0,i0,s0,s0,i0,n0,n0,s0,i0,i0,i0,i0,i0,i0,i0,i0,i0,s0,s0,s0,i0,i0,i0,s0,s0,n0,i0,n0,i0,s0,s0]]
def BHP:T:=T.b9 [T.agg [s0,l0,l0,l0,l0,l0],pPP 8]
def BJE:gEd BHM=some BHP:=by kernel_rfl
def Q4:List (List T×T):=[(BHK,BHN),(BHL,BHO),(BHM,BHP)]
def AJ4:aP Tryz.prog 66 (EB Q4):=GV BB5 λx hx=>by
 simp only[Q4,List.mem_cons,List.not_mem_nil,or_false] at hx;rcases hx with rfl|rfl|rfl
 ·exact BJC
 ·exact BJD
 ·exact BJE
end Go.Pv
namespace Go.Pv
open Go Go.Proofs Go.RowKit Go.Shelf IntKind
def BE4:Ren:=⟨λ|166=>35|240=>59|276=>79|169=>39|n=>n,λ|0=>0|3=>3|4=>4|5=>5|9=>9|20=>20|37=>92|70=>91|72=>94|75=>96|80=>101|127=>129|164=>147|n=>n,λ|n=>n⟩
def BH5:Lays.n166 Tryz.prog BE4:={
 mixed:=aZ
 f166:=Tryz.func35.trans (congrArg some (by kernel_rfl))
 f240:=Tryz.func59.trans (congrArg some (by kernel_rfl))
 f276:=Tryz.func79.trans (congrArg some (by kernel_rfl))
 t0:=by kernel_rfl
 a0:=λ_=>by kernel_rfl
 z0:=λ_=>by kernel_rfl
 v0:=λ_=>by kernel_rfl
 t3:=by kernel_rfl
 a3:=λ_=>by kernel_rfl
 z3:=λ_=>by kernel_rfl
 v3:=λ_=>by kernel_rfl
 t4:=by kernel_rfl
 a4:=λ_=>by kernel_rfl
 z4:=λ_=>by kernel_rfl
 v4:=λ_=>by kernel_rfl
 t9:=by kernel_rfl
 a9:=λ_=>by kernel_rfl
 z9:=λ_=>by kernel_rfl
 v9:=λ_=>by kernel_rfl
 t20:=by kernel_rfl
 a20:=λ_=>by kernel_rfl
 z20:=λ_=>by kernel_rfl
 v20:=λ_=>by kernel_rfl
 t37:=by kernel_rfl
 a37:=λ_=>by kernel_rfl
 z37:=λ_=>by kernel_rfl
 v37:=λ_=>by kernel_rfl
 t70:=by kernel_rfl
 a70:=λ_=>by kernel_rfl
 z70:=λ_=>by kernel_rfl
 v70:=λ_=>by kernel_rfl
 t72:=by kernel_rfl
 a72:=λ_=>by kernel_rfl
 z72:=λ_=>by kernel_rfl
 v72:=λ_=>by kernel_rfl
 t75:=by kernel_rfl
 a75:=λ_=>by kernel_rfl
 z75:=λ_=>by kernel_rfl
 v75:=λ_=>by kernel_rfl
 t164:=by kernel_rfl
 a164:=λ_=>by kernel_rfl
 z164:=λ_=>by kernel_rfl
 v164:=λ_=>by kernel_rfl }
def BH4:Lays.n169 Tryz.prog BE4:={
 mixed:=aZ
 f169:=Tryz.func39.trans (congrArg some (by kernel_rfl))
 t0:=by kernel_rfl
 a0:=λ_=>by kernel_rfl
 z0:=λ_=>by kernel_rfl
 v0:=λ_=>by kernel_rfl
 t3:=by kernel_rfl
 a3:=λ_=>by kernel_rfl
 z3:=λ_=>by kernel_rfl
 v3:=λ_=>by kernel_rfl
 t9:=by kernel_rfl
 a9:=λ_=>by kernel_rfl
 z9:=λ_=>by kernel_rfl
 v9:=λ_=>by kernel_rfl
 t37:=by kernel_rfl
 a37:=λ_=>by kernel_rfl
 z37:=λ_=>by kernel_rfl
 v37:=λ_=>by kernel_rfl
 t70:=by kernel_rfl
 a70:=λ_=>by kernel_rfl
 z70:=λ_=>by kernel_rfl
 v70:=λ_=>by kernel_rfl
 t72:=by kernel_rfl
 a72:=λ_=>by kernel_rfl
 z72:=λ_=>by kernel_rfl
 v72:=λ_=>by kernel_rfl
 t127:=by kernel_rfl
 a127:=λ_=>by kernel_rfl
 z127:=λ_=>by kernel_rfl
 v127:=λ_=>by kernel_rfl }
def AXM:Builder.Extra Tryz.prog BE4 where
 sizeBuilder:=by kernel_rfl
 liesBuilder:=by kernel_rfl
 t5:=by kernel_rfl
 a5:=λ_=>by kernel_rfl
 z5:=λ_=>by kernel_rfl
 v5:=λ_=>by kernel_rfl
 infoByte:=by kernel_rfl
 cellsByte:=by kernel_rfl
 sizeByte:=by kernel_rfl
 neB5:=by decide
def ANQ (B b:Nat) (bs:List Value) (s:iII) (w:World) (h:Lib.IsBuilderF 94 5 B b bs w) (hlen:bs.length+s.size<=140737488355328) (hBw:B<=w.heap.size) :
  Calls Tryz.prog 35 #[.pointer (some ⟨b,0,none⟩),.string s] w λe w'=>e = .returned (.tuple #[.int .i64 s.size,.nilIface])/\(Lib.BuilderAtF 94 5 B b (.pointer (some ⟨b,0,none⟩)) (bs++Lib.strCells s) w'/\Below B w w') :=
 Any.Builder_WriteString_f BH5 AXM B b bs s w h hlen hBw
def AFM (B b:Nat) (l:List UInt8) (w:World) (h:Lib.IsBuilderF 94 5 B b (Lib.byteCells l) w) (hBw:B<=w.heap.size) :
  Calls Tryz.prog 39 #[.pointer (some ⟨b,0,none⟩)] w λe w'=>e = .returned (.string ⟨l.toArray⟩)/\(Lib.IsBuilderF 94 5 B b (Lib.byteCells l) w'/\Below B w w') :=
 Any.Builder_String_any_f BH4 AXM B b l w h hBw
end Go.Pv
namespace Go.Pv
open Go Go.Proofs Go.RowKit IntKind
variable {P:Program}{ops:Array Oper}{Q:Exit->Act->World->Prop}
def mB {rest:List Nat} {a:Act} {w:World} {i:Nat} {o:Oper} (h:ops[i]? = some o) (hg:o.guard=none) (hh:o.wp P a w (wpOps P ops Q rest) Q):wpOps P ops Q (i::rest) a w:=by
 unfold wpOps;rw[h];have:Region.wanted o (yielded ops a.tmps)=true:=by unfold Region.wanted;rw[hg]
 simp only[this,if_true];exact .inl hh
def AK3 {o:Oper} {a:Act} {w:World} {next:Act->World->Prop} {f:FuncId} {c:Call} {vs:Array Value} (ho:o.op = .call c) (hc:c.callee=Callee.value (Operand.func f)) (hv:c.args.map a.eval=vs)
  (hent:∃ fn,P.funcs[f]? = some fn/\(fn.name == "runtime.NumGoroutine")=false/\fn.body.isNone=false) (h:Calls P f vs w (λe w'=>∃ v,e = .returned v/\next (a.put o.dst v) w')):o.wp P a w next Q:=by
 obtain ⟨fn,e1,e2,e3⟩:=hent
 have e2':¬ fn.name = "runtime.NumGoroutine" := by simpa using e2
 have e3':¬ fn.body=none:=by intro h;simp[h] at e3
 have he:(execOp a.eval o).run P w = .ok (.enter f vs) w:=by
  simp only[execOp,ho,resolve,hc];simp[Deferred.ofValue,invoke,callFunc,Act.eval,e1,e2',e3',hv]
 unfold Oper.wp;rw[he];refine h.mono ?_;rintro e w' ⟨v,rfl,h3⟩;exact h3
noncomputable def J0 (rows:List (List T)) (k:Nat):Nat->D:=λt=>if t=16 then .p (.sl false rows) else if t=18 then .p (.v (.int .i64 (k:Int))) else .any
noncomputable def s1 (t:Nat) (d:D):Nat->D:=λi=>if i=t then d else .any
variable {ρ:Nat->Option Loc}
def A2B {w:World} {own:Nat->Prop} {t:Nat} {d:D} {a:Act} (h:Rd w own ρ d (a.tmps.getD t undef)):∀ x,Rd w own ρ (ev (s1 t d) x) (a.eval x):=λx=>by
 cases x with
 | tmp i =>
  show Rd w own ρ (if i=t then d else .any) (a.tmps.getD i undef);by_cases e:i=t
  ·subst e;rw[if_pos rfl];exact h
  ·rw[if_neg e];exact .any _
 | const v=>exact .p _ _ (.v v)
 | global g=>exact .p _ _ (.v _)
 | func f=>exact .p _ _ (.fn f [] [] #[] #[] rfl rfl (λi hi=>by simp at hi) (λi hi=>by simp at hi))
noncomputable def zE:List D:=match tz? Tryz.prog 68 with
 | some z=>z.cells.toList.map λv=>.p (.v v)
 | none=>[]
noncomputable def σA:Nat->Option bG:=b6 (λ_=>none) 0 (some (.rows false [zE]))
noncomputable def σB (x:aV):Nat->Option bG:=b6 σA 0 (some (.rows false [(aM.enc x).map .p]))
def BFJ:((tz? Tryz.prog 68).bind λz=>(pA (z.cells.toList.map λv=>.p (.v v))).map λb=>((.ptr 0 0 0:D),b6 (λ_=>none) 0 (some b)))=some (.ptr 0 0 0,σA):=by kernel_rfl
def BDJ (x:aV):uK Tryz.prog (λ_=>none) 68 (.p (.ref (aM.enc x)))=some (.p (.agg (aM.enc x))):=by kernel_rfl
def A8W (x:aV):jU Tryz.prog σA 68 (.ptr 0 0 0) (.p (.agg (aM.enc x)))=some (σB x):=by kernel_rfl
def BDI (x:aV):uK Tryz.prog (σB x) 68 (.ptr 0 0 0)=some (.p (.agg (aM.enc x))):=by kernel_rfl
def A68 {rows:List (List T)} {k:Nat} {x:aV} (hrow:rows[k]? = some (aM.enc x)):cZ Tryz.prog (λ_=>none) 23 (.p (.sl false rows)) (.p (.v (.int .i64 (k:Int))))=some (.p (.ref (aM.enc x))):=by
 have e1:mD Tryz.prog 23=some 68:=by kernel_rfl
 have e2:tsz? Tryz.prog 68=some 38:=by kernel_rfl
 unfold cZ;simp only[e1,e2,fA,Int.toNat_natCast,hrow];rw[if_neg (by omega),if_pos (by rfl)]
def HP {a:Act} {i:Nat} {v:Value} (h:i<a.tmps.size):(a.put (some i) v).tmps.getD i undef=v:=by
 simp[Act.put,Array.getD_eq_getD_getElem?,h]
def AHZ {a:Act} {i j:Nat} {v:Value} (h:i≠j):(a.put (some i) v).tmps.getD j undef=a.tmps.getD j undef:=by
 simp[Act.put,Array.getD_eq_getD_getElem?,Array.getElem?_setIfInBounds,h]
def zC {a:Act} {i:Nat} {v:Value}:(a.put (some i) v).tmps.size=a.tmps.size:=by simp[Act.put]
noncomputable def cxF (w:World):Cx:=MW Tryz.prog (λ_=>False) w
variable {o0 o1 o2:Oper}
def ALE {id:Nat} {o3:Oper} (hops:ops = #[o0,o1,o2,o3]) (g0:o0.guard=none) (g1:o1.guard=none) (g2:o2.guard=none) (g3:o3.guard=none)
  (p0:o0.op = .indexAddr 23 (.tmp 16) (.tmp 18)) (d0:o0.dst=some 20) (p1:o1.op = .load 68 (.tmp 20)) (d1:o1.dst=some 21) (p2:o2.op = .alloc 68) (d2:o2.dst=some 5) (p3:o3.op = .store 68 (.tmp 5) (.tmp 21)) (d3:o3.dst=none) {a:Act} {w:World} (hG:Good Tryz.prog w) (hsz:a.tmps.size=27) {rows:List (List T)} {x:aV} {k:Nat}
  (h16:cK w (λ_=>False) (.sl false rows) (a.tmps.getD 16 undef)) (h18:a.tmps.getD 18 undef = .int .i64 (k:Int)) (hrow:rows[k]? = some (aM.enc x))
  (hQ:∀ v20 v21 v5 w' ρ,Inv (cxF w) ρ (σB x) 2 w'->Good Tryz.prog w'->Rd w' (Own (cxF w) ρ (σB x)) ρ (.ptr 0 0 0) v5->Q .normal (((a.put (some 20) v20).put (some 21) v21).put (some 5) v5) w') :
  (Code.region id ops false).wp Tryz.prog Q a w:=by
 subst hops;refine wp_region ?_;show wpOps _ _ _ [0,1,2,3] _ _;have hI:Inv (cxF w) (λ_=>none) (λ_=>none) 0 w:=BDC Tryz.prog (λ_=>False) w hG (λb h=>h.elim);have own0:∀ b,Own (cxF w) (λ_=>none) (λ_=>none) b->False:=λb hb=>by
  rcases hb with hb|⟨k,l,x,hk,_,_⟩
  ·exact hb
  ·cases hk
 refine mB (o:=o0) rfl g0 ?_;have hs0:∀ y,Rd w (Own (cxF w) (λ_=>none) (λ_=>none)) (λ_=>none) (ev (J0 rows k) y) (a.eval y):=λy=>by
  cases y with
  | tmp i =>
   show Rd _ _ _ (if i=16 then .p (.sl false rows) else if i=18 then .p (.v (.int .i64 (k:Int))) else .any) (a.tmps.getD i undef);by_cases e:i=16
   ·subst e;rw[if_pos rfl];exact .p _ _ (h16.less own0)
   ·rw[if_neg e];by_cases e2:i=18
    ·subst e2;rw[if_pos rfl,h18];exact .p _ _ (.v _)
    ·rw[if_neg e2];exact .any _
  | const v=>exact .p _ _ (.v v)
  | global g=>exact .p _ _ (.v _)
  | func f=>exact .p _ _ (.fn f [] [] #[] #[] rfl rfl (λi hi=>by simp at hi) (λi hi=>by simp at hi))
 refine ACK (cx:=cxF w) (E:=Env.of []) (aU.nil _) hI hG hs0 hs0 (d:=.p (.ref (aM.enc x))) (by rw[p0];exact A68 hrow) λv20 w1 b1 hv20=>?_;rw[d0];have hI1:=hI.grow b1 (al _);have hG1:=hG.below b1;refine mB (o:=o1) rfl g1 ?_;have hs1:=A2B (t:=20) (a:=a.put (some 20) v20) (by rw[HP (by omega)];exact hv20);refine ACK (cx:=cxF w) (E:=Env.of []) (aU.nil _) hI1 hG1 hs1 hs1 (d:=.p (.agg (aM.enc x))) (by rw[p1];exact BDJ x) λv21 w2 b2 hv21=>?_;rw[d1];have hI2:=hI1.grow b2 (al _);have hG2:=hG1.below b2;refine mB (o:=o2) rfl g2 ?_;have hs2:=A2B (t:=21) (a:=(a.put (some 20) v20).put (some 21) v21) (by rw[HP (by rw[zC];omega)];exact hv21);refine AB4 (cx:=cxF w) (E:=Env.of []) (aU.nil _) hI2 hG2 hs2 (d:=.ptr 0 0 0) (σ':=σA) (n':=1) (by
  rw[p2];show one 0 ((tz? Tryz.prog 68).bind λz=>(pA (z.cells.toList.map λv=>.p (.v v))).map λb=>((.ptr 0 0 0:D),b6 (λ_=>none) 0 (some b)))=_;rw[BFJ];rfl) λv5 w3 ρ3 hI3 hk3 hv5=>?_
 rw[d2];have hG3:=hI2.oO hI3 hk3 hG2;refine mB (o:=o3) rfl g3 ?_;have hv21':=hk3.rd hv21;have hs3:∀ y,Rd w3 (Own (cxF w) ρ3 σA) ρ3 (ev (λi=>if i=5 then .ptr 0 0 0 else if i=21 then .p (.agg (aM.enc x)) else .any) y) ((((a.put (some 20) v20).put (some 21) v21).put (some 5) v5).eval y):=λy=>by
  cases y with
  | tmp i =>
   show Rd _ _ _ (if i=5 then .ptr 0 0 0 else if i=21 then .p (.agg (aM.enc x)) else .any) ((((a.put (some 20) v20).put (some 21) v21).put (some 5) v5).tmps.getD i undef);by_cases e:i=5
   ·subst e;rw[if_pos rfl,HP (by rw[zC,zC];omega)];exact hv5
   ·rw[if_neg e];by_cases e2:i=21
    ·subst e2;rw[if_pos rfl,AHZ (by decide),HP (by rw[zC];omega)];exact hv21'
    ·rw[if_neg e2];exact .any _
  | const v=>exact .p _ _ (.v v)
  | global g=>exact .p _ _ (.v _)
  | func f=>exact .p _ _ (.fn f [] [] #[] #[] rfl rfl (λi hi=>by simp at hi) (λi hi=>by simp at hi))
 refine AB4 (cx:=cxF w) (E:=Env.of []) (aU.nil _) hI3 hG3 hs3 (d:=.p (.v undef)) (σ':=σB x) (n':=2) (by
  rw[p3];show one 1 ((jU Tryz.prog σA 68 (.ptr 0 0 0) (.p (.agg (aM.enc x)))).map λσ'=>((.p (.v undef):D),σ'))=_;rw[A8W];rfl) λv' w4 ρ4 hI4 hk4 _=>?_
 rw[d3];exact hQ v20 v21 v5 w4 ρ4 hI4 (hI3.oO hI4 hk4 hG3) (hk4.rd hv5)
variable {ge:List T->Option T}
def ALF {id:Nat} {c1 c2:Call} (hops:ops = #[o0,o1,o2]) (g0:o0.guard=none) (g1:o1.guard=none) (g2:o2.guard=none)
  (p0:o0.op = .load 68 (.tmp 5)) (d0:o0.dst=some 22) (p1:o1.op = .call c1) (q1:c1.callee=Callee.value (Operand.func 38)) (r1:c1.args = #[.tmp 22]) (d1:o1.dst=some 23)
  (p2:o2.op = .call c2) (q2:c2.callee=Callee.value (Operand.func 35)) (r2:c2.args = #[.tmp 3,.tmp 23]) (d2:o2.dst=some 24) {a:Act} {w w0:World} {x:aV} (hI:Inv (cxF w0) ρ (σB x) 2 w) (hG:Good Tryz.prog w) (hsz:a.tmps.size=27) (hv5:Rd w (Own (cxF w0) ρ (σB x)) ρ (.ptr 0 0 0) (a.tmps.getD 5 undef)) {eB:iII} (fe:aP Tryz.prog 38 ge) (hge:ge [aH true aM x]=some (.v (.string eB)))
  {ptr:Value} (h3:a.tmps.getD 3 undef=ptr)
  (hW:∀ v22 v23 w',Below w.heap.size w w'->Calls Tryz.prog 35 #[ptr,.string eB] w' λe w''=>∃ v,e = .returned v/\Q .normal (((a.put (some 22) v22).put (some 23) v23).put (some 24) v) w'') :
  (Code.region id ops false).wp Tryz.prog Q a w:=by
 subst hops;refine wp_region ?_;show wpOps _ _ _ [0,1,2] _ _;refine mB (o:=o0) rfl g0 ?_;have hs0:=A2B (t:=5) (a:=a) hv5;refine ACK (cx:=cxF w0) (E:=Env.of []) (aU.nil _) hI hG hs0 hs0 (d:=.p (.agg (aM.enc x))) (by rw[p0];exact BDI x) λv22 w1 b1 hv22=>?_;rw[d0];have hI1:=hI.grow b1 (al _);have hG1:=hG.below b1;have hr:cK w1 (Own (cxF w0) ρ (σB x)) (T.agg (aM.enc x)) v22:=by
  cases hv22 with
  | p _ _ h=>exact h
 refine mB (o:=o1) rfl g1 ?_;refine AK3 (vs:=#[v22]) p1 q1 (by rw[r1];simp only[List.map_toArray,List.map_cons,List.map_nil];exact congrArg (λv=>#[v]) (HP (by omega))) fe.entry ?_;refine (fe.calls w1 _ [aH true aM x] #[v22] (.v (.string eB)) hG1 (λb hb=>Own.lt hI1 hb) (dA.one hr) hge).mono ?_;rintro e w2 ⟨v23,rfl,hv23,b2⟩;cases hv23;refine ⟨_,rfl,?_⟩;rw[d1];refine mB (o:=o2) rfl g2 ?_;refine AK3 (vs:=#[ptr,.string eB]) p2 q2 ?_ ⟨_,Tryz.func35,rfl,rfl⟩ ?_
 ·rw[r2];simp only[List.map_toArray,List.map_cons,List.map_nil];show #[((a.put (some 22) v22).put (some 23) (.string eB)).tmps.getD 3 undef,((a.put (some 22) v22).put (some 23) (.string eB)).tmps.getD 23 undef]=_;rw[AHZ (by decide),AHZ (by decide),h3,HP (by rw[zC];omega)]
 ·rw[d2];exact hW v22 _ w2 (b1.trans (b2.mono b1.size))
end Go.Pv
namespace Go.Pv
open Go Go.Proofs Go.RowKit IntKind
variable {ge:List T->Option T}
set_option maxHeartbeats 4000000 in
def AN5 (id:iII) (n cap:Nat) (w:World) (tx ls:iII) (M:Nat) (L:List aV) (hn:L.length=n) (hn9:n<=1000000000) (St:List UInt8->World->Prop) (P:Nat->List UInt8) (hz:tx.size+ls.size<=M) (hM:M<=1000000000)
  (hP0:P 0=(tx++ls).data.toList) (fe:aP Tryz.prog 38 ge) (eB:aV->iII) (hPs:∀ k (h:k<L.length),P (k+1)=P k++(eB L[k]).data.toList) (hPM:∀ k (h:k<L.length),(P k).length+(eB L[k]).size<=M) (hok:∀ k (h:k<L.length),ge [aH true aM L[k]]=some (.v (.string (eB L[k]))))
  (W2:World) (hW2:(w.alloc (.cells #[.string id,.slice none n cap] 25)).alloc (.cells #[.pointer none,.slice none 0 0] 94)=W2) (h2:St [] W2)
  (hd:∀ l W,St l W->St l W.drew) (hb:∀ l W W',St l W->Below W.heap.size W W'->St l W') (hG:∀ l W,St l W->Good Tryz.prog W)
  (hc0:∀ l W,St l W->W.cell? ⟨w.heap.size,0,none⟩=some (.string id))
  (hc:∀ l W,St l W->W.cell? ⟨w.heap.size,1,none⟩=some (.slice none n cap))
  (hR:∀ l W,St l W->cK W (λ_=>False) (.sl false (List.map aM.enc L)) (.slice none n cap))
  (hT:∀ W,St [] W->Calls Tryz.prog 36 #[.string id] W λe W'=>e = .returned (.string tx)/\St [] W')
  (hL:∀ W,St [] W->Calls Tryz.prog 37 #[.int .i64 (n:Int)] W λe W'=>e = .returned (.string ls)/\St [] W')
  (hW:∀ l s W,St l W->l.length+s.size<=M->Calls Tryz.prog 35 #[.pointer (some ⟨w.heap.size+1,0,none⟩),.string s] W λe W'=>e = .returned (.tuple #[.int .i64 s.size,.nilIface])/\St (l++s.data.toList) W')
  (hS:∀ l W,St l W->Calls Tryz.prog 39 #[.pointer (some ⟨w.heap.size+1,0,none⟩)] W λe W'=>e = .returned (.string ⟨l.toArray⟩)/\Below w.heap.size w W') :
  Calls Tryz.prog 12 #[.agg #[.string id,.slice none n cap]] w λe w'=>e = .returned (.string ⟨(P n).toArray⟩)/\Below w.heap.size w w':=by
 go_enter Tryz.func12,Tryz.ntmps12
 go_wp2_with fail
 go_cut [] from 6 to 14 (λwx=>St (tx++ls).data.toList wx)
 case first =>
  have k2:=hc _ _ h2;have k3:=hc0 _ _ h2
  go_region_with (first
   | (go_at_call 36;refine (hT _ ?_).mono ?_;(first|assumption|(apply hd;assumption)|(apply hd;apply hd;assumption));rintro e W3 ⟨rfl,h3⟩;have k4:=hc _ _ h3;have k5:=hc0 _ _ h3)
   | (go_at_call 37;refine (hL _ ?_).mono ?_;(first|assumption|(apply hd;assumption)|(apply hd;apply hd;assumption));rintro e W4 ⟨rfl,h4⟩;have k6:=hc _ _ h4;have k7:=hc0 _ _ h4)
   | (go_at_call 35;refine (hW [] _ _ ?_ ?_).mono ?_;(first|assumption|(apply hd;assumption)|(apply hd;apply hd;assumption));(rw[ByteArray.size_append];simpa using hz);rintro e W5 ⟨rfl,h5⟩))
  all_goals (go_wp2_with fail;go_meet;rw[List.nil_append] at h5;exact h5)
 case rest =>
  have k2:=hc _ _ hcut
  go_wp2_with fail
  go_loopg [18] n (λg s18 wx=>∃ k:Nat,s18 = .int .i64 (k:Int)/\k+g=n/\St (P k) wx)
  case atStart=>exact ⟨0,rfl,by omega,by rw[hP0];exact hcut⟩
  case round =>
   obtain ⟨k,rfl,hk,hs⟩:=hrel;cases gk with
   | zero =>
    obtain rfl:k=n:=by omega
    go_wp2_with (go_at_call 39;refine (hS _ _ hs).mono ?_;rintro e W6 ⟨rfl,h6⟩)
    go_ret
    exact ⟨rfl,h6⟩
   | succ g =>
    have hlt:k<n:=by omega
    have hlt':(k:Int)<(n:Int):=by omega
    have hkl:k<L.length:=by omega
    go_upto_region 5 with fail
    rename_i K7 hK7 K5 hK5;refine ALE rfl rfl rfl rfl rfl rfl rfl rfl rfl rfl rfl rfl rfl (x:=L[k]) (k:=k) (hG _ _ hs) rfl (hR _ _ hs) rfl (by rw[List.getElem?_map,List.getElem?_eq_getElem hkl];rfl) ?_;intro v20 v21 v5 w' ρ hI hG5 hv5;have hs5:=hb _ _ _ hs hI.below.toB;refine hK5 _ _ ?_;refine ALF rfl rfl rfl rfl rfl rfl rfl rfl rfl rfl rfl rfl rfl rfl (w0:=wr) (x:=L[k]) hI hG5 rfl hv5 fe (hok k hkl) rfl ?_;intro v22 v23 w'' hb6;refine (hW _ _ _ (hb _ _ _ hs5 hb6) (hPM k hkl)).mono ?_;rintro e w8 ⟨rfl,h8⟩;rw[<-hPs k hkl] at h8;refine ⟨_,rfl,?_⟩;refine hK7 _ _ ?_;simp only[Act.put]
    go_wp2_with fail
    go_roundg g
    case measure=>omega
    case rel=>exact ⟨k+1,rfl,by omega,h8⟩
set_option maxHeartbeats 4000000 in
def AN6 (id:iII) (ad:Addr)(n cap:Nat) (w:World) (tx ls:iII) (M:Nat) (L:List aV) (hn:L.length=n) (hn9:n<=1000000000) (St:List UInt8->World->Prop) (P:Nat->List UInt8) (hz:tx.size+ls.size<=M) (hM:M<=1000000000)
  (hP0:P 0=(tx++ls).data.toList) (fe:aP Tryz.prog 38 ge) (eB:aV->iII) (hPs:∀ k (h:k<L.length),P (k+1)=P k++(eB L[k]).data.toList) (hPM:∀ k (h:k<L.length),(P k).length+(eB L[k]).size<=M) (hok:∀ k (h:k<L.length),ge [aH true aM L[k]]=some (.v (.string (eB L[k]))))
  (W2:World) (hW2:(w.alloc (.cells #[.string id,.slice (some ad) n cap] 25)).alloc (.cells #[.pointer none,.slice none 0 0] 94)=W2) (h2:St [] W2)
  (hd:∀ l W,St l W->St l W.drew) (hb:∀ l W W',St l W->Below W.heap.size W W'->St l W') (hG:∀ l W,St l W->Good Tryz.prog W)
  (hc0:∀ l W,St l W->W.cell? ⟨w.heap.size,0,none⟩=some (.string id))
  (hc:∀ l W,St l W->W.cell? ⟨w.heap.size,1,none⟩=some (.slice (some ad) n cap))
  (hR:∀ l W,St l W->cK W (λ_=>False) (.sl false (List.map aM.enc L)) (.slice (some ad) n cap))
  (hT:∀ W,St [] W->Calls Tryz.prog 36 #[.string id] W λe W'=>e = .returned (.string tx)/\St [] W')
  (hL:∀ W,St [] W->Calls Tryz.prog 37 #[.int .i64 (n:Int)] W λe W'=>e = .returned (.string ls)/\St [] W')
  (hW:∀ l s W,St l W->l.length+s.size<=M->Calls Tryz.prog 35 #[.pointer (some ⟨w.heap.size+1,0,none⟩),.string s] W λe W'=>e = .returned (.tuple #[.int .i64 s.size,.nilIface])/\St (l++s.data.toList) W')
  (hS:∀ l W,St l W->Calls Tryz.prog 39 #[.pointer (some ⟨w.heap.size+1,0,none⟩)] W λe W'=>e = .returned (.string ⟨l.toArray⟩)/\Below w.heap.size w W') :
  Calls Tryz.prog 12 #[.agg #[.string id,.slice (some ad) n cap]] w λe w'=>e = .returned (.string ⟨(P n).toArray⟩)/\Below w.heap.size w w':=by
 go_enter Tryz.func12,Tryz.ntmps12
 go_wp2_with fail
 go_cut [] from 6 to 14 (λwx=>St (tx++ls).data.toList wx)
 case first =>
  have k2:=hc _ _ h2;have k3:=hc0 _ _ h2
  go_region_with (first
   | (go_at_call 36;refine (hT _ ?_).mono ?_;(first|assumption|(apply hd;assumption)|(apply hd;apply hd;assumption));rintro e W3 ⟨rfl,h3⟩;have k4:=hc _ _ h3;have k5:=hc0 _ _ h3)
   | (go_at_call 37;refine (hL _ ?_).mono ?_;(first|assumption|(apply hd;assumption)|(apply hd;apply hd;assumption));rintro e W4 ⟨rfl,h4⟩;have k6:=hc _ _ h4;have k7:=hc0 _ _ h4)
   | (go_at_call 35;refine (hW [] _ _ ?_ ?_).mono ?_;(first|assumption|(apply hd;assumption)|(apply hd;apply hd;assumption));(rw[ByteArray.size_append];simpa using hz);rintro e W5 ⟨rfl,h5⟩))
  all_goals (go_wp2_with fail;go_meet;rw[List.nil_append] at h5;exact h5)
 case rest =>
  have k2:=hc _ _ hcut
  go_wp2_with fail
  go_loopg [18] n (λg s18 wx=>∃ k:Nat,s18 = .int .i64 (k:Int)/\k+g=n/\St (P k) wx)
  case atStart=>exact ⟨0,rfl,by omega,by rw[hP0];exact hcut⟩
  case round =>
   obtain ⟨k,rfl,hk,hs⟩:=hrel;cases gk with
   | zero =>
    obtain rfl:k=n:=by omega
    go_wp2_with (go_at_call 39;refine (hS _ _ hs).mono ?_;rintro e W6 ⟨rfl,h6⟩)
    go_ret
    exact ⟨rfl,h6⟩
   | succ g =>
    have hlt:k<n:=by omega
    have hlt':(k:Int)<(n:Int):=by omega
    have hkl:k<L.length:=by omega
    go_upto_region 5 with fail
    rename_i K7 hK7 K5 hK5;refine ALE rfl rfl rfl rfl rfl rfl rfl rfl rfl rfl rfl rfl rfl (x:=L[k]) (k:=k) (hG _ _ hs) rfl (hR _ _ hs) rfl (by rw[List.getElem?_map,List.getElem?_eq_getElem hkl];rfl) ?_;intro v20 v21 v5 w' ρ hI hG5 hv5;have hs5:=hb _ _ _ hs hI.below.toB;refine hK5 _ _ ?_;refine ALF rfl rfl rfl rfl rfl rfl rfl rfl rfl rfl rfl rfl rfl rfl (w0:=wr) (x:=L[k]) hI hG5 rfl hv5 fe (hok k hkl) rfl ?_;intro v22 v23 w'' hb6;refine (hW _ _ _ (hb _ _ _ hs5 hb6) (hPM k hkl)).mono ?_;rintro e w8 ⟨rfl,h8⟩;rw[<-hPs k hkl] at h8;refine ⟨_,rfl,?_⟩;refine hK7 _ _ ?_;simp only[Act.put]
    go_wp2_with fail
    go_roundg g
    case measure=>omega
    case rel=>exact ⟨k+1,rfl,by omega,h8⟩
end Go.Pv
namespace Go.Pv
open Go Go.Proofs IntKind
section
variable {V c d : Int} {k v : Nat}
end
end Go.Pv
namespace Go.Pv
open Go Go.Proofs IntKind
end Go.Pv
namespace Go.Pv
open Go Go.Proofs IntKind
end Go.Pv
namespace Go.Pv
open Go Go.Proofs IntKind
def tN {α:Type} (f:α->iII):List α->iII
 | []=>⟨#[]⟩
 | a::l=>f a++tN f l
def zb (b:iII):(⟨#[]⟩:iII)++b=b:=by
 apply ByteArray.ext;simp[ByteArray.data_append]
def w9 {α:Type} (f:α->iII):∀ (a b:List α),tN f (a++b)=tN f a++tN f b
 | [],b=>(zb _).symm
 | x::a,b=>by
  show f x++tN f (a++b)=f x++tN f a++tN f b;rw[w9 f a b,ByteArray.append_assoc]
end Go.Pv
namespace Go.Pv
open Go Go.Proofs Go.RowKit IntKind
def HL (hd:iII) (eB:aV->iII) (l:List aV) (k:Nat):List UInt8:=(hd++tN eB (l.take k)).data.toList
variable {hd:iII}{eB:aV->iII}
def HM {l:List aV} {k:Nat} (h:k<l.length):HL hd eB l (k+1)=HL hd eB l k++(eB l[k]).data.toList:=by
 unfold HL;rw[List.take_succ_eq_append_getElem h,w9,<-ByteArray.append_assoc];show (_++(eB l[k]++tN eB [])).data.toList=_;rw[show eB l[k]++tN eB []=eB l[k] from ByteArray.append_empty];simp[ByteArray.data_append]
def A5V:∀ (l m:List aV),l <+: m->(tN eB l).size<=(tN eB m).size
 | l,_,⟨r,rfl⟩=>by rw[w9,ByteArray.size_append];omega
def A8O {l:List aV} (k:Nat):(HL hd eB l k).length<=(hd++tN eB l).size:=by
 have h:=A5V (eB:=eB) (l.take k) l (List.take_prefix ..);have e:(HL hd eB l k).length=(hd++tN eB (l.take k)).size:=rfl;rw[e,ByteArray.size_append,ByteArray.size_append];omega
variable {ge gt gl:List T->Option T}
set_option maxHeartbeats 400000 in
def AN4 (fe:aP Tryz.prog 38 ge) (ft:aP Tryz.prog 36 gt) (fl:aP Tryz.prog 37 gl) (eB:aV->iII) (tx ls:iII) (o:dJ)
  (gT:gt [.v (.string o.1)]=some (.v (.string tx))) (gL':gl [.v (.int .i64 (o.2.length:Int))]=some (.v (.string ls))) (hE:∀ x∈o.2,ge [aH true aM x]=some (.v (.string (eB x)))) (k4:((tx++ls)++tN eB o.2).size<=1000000000) (k2:o.2.length<=1000000000)
  (ad:Option Addr) (n cap:Nat) (hn:o.2.length=n) (w:World) (hG:Good Tryz.prog w) (hr:cK w (λ_=>False) (.sl false (List.map aM.enc o.2)) (.slice ad n cap)) :
  Calls Tryz.prog 12 #[.agg #[.string o.1,.slice ad n cap]] w λe w'=>e = .returned (.string ((tx++ls)++tN eB o.2))/\Below w.heap.size w w':=by
 have gL:gl [.v (.int .i64 (n:Int))]=some (.v (.string ls)):=by rw[<-hn];exact gL'
 have hn9:n<=1000000000:=by omega
 obtain ⟨M,hM⟩:∃ M:Nat,M=1000000000:=⟨_,rfl⟩
 have hM9:M<=1000000000:=Nat.le_of_eq hM;have s1:(w.alloc (.cells #[.string o.1,.slice ad n cap] 25)).heap.size=w.heap.size+1:=Array.size_push ..;have b1:Below w.heap.size w (w.alloc (.cells #[.string o.1,.slice ad n cap] 25)):=(Below.refl _ w).alloc (al _) _;obtain ⟨W2,hW2⟩:∃ W2,(w.alloc (.cells #[.string o.1,.slice ad n cap] 25)).alloc (.cells #[.pointer none,.slice none 0 0] 94)=W2:=⟨_,rfl⟩
 have s2:W2.heap.size=w.heap.size+2:=by rw[<-hW2];show (Array.push _ _).size=_;rw[Array.size_push,s1]
 have b2:Below w.heap.size w W2:=by rw[<-hW2];exact b1.alloc (by rw[s1];omega) _
 have c2:W2.heap[w.heap.size]? = some (.cells #[.string o.1,.slice ad n cap] 25):=by
  rw[<-hW2,Below.heap_alloc _ _ _ (by rw[s1];omega)];exact heap_alloc_new w _
 have h0:Lib.IsBuilderF 94 5 (w.heap.size+1) (w.heap.size+1) [] W2:=by
  have:=Lib.IsBuilderF.of (Lib.fresh_isBuilder 94 5 (w.alloc (.cells #[.string o.1,.slice ad n cap] 25)));rw[s1] at this;rw[<-hW2];exact this
 obtain ⟨St,hSt⟩:∃ St:List UInt8->World->Prop,St=λl W=>Below w.heap.size w W/\W.heap[w.heap.size]? = some (.cells #[.string o.1,.slice ad n cap] 25)/\Lib.IsBuilderF 94 5 (w.heap.size+1) (w.heap.size+1) (Lib.byteCells l) W/\w.heap.size+2<=W.heap.size:=⟨_,rfl⟩
 have hSt':∀ l W,St l W↔Below w.heap.size w W/\W.heap[w.heap.size]? = some (.cells #[.string o.1,.slice ad n cap] 25)/\Lib.IsBuilderF 94 5 (w.heap.size+1) (w.heap.size+1) (Lib.byteCells l) W/\w.heap.size+2<=W.heap.size:=λl W=>by rw[hSt]
 clear hSt;have hb:∀ l W W',St l W->Below W.heap.size W W'->St l W':=λl W W' h hb=>by
  obtain ⟨g1,g2,g3,g4⟩:=(hSt' l W).1 h;refine (hSt' l W').2 ⟨g1.trans (hb.mono (by omega)),?_,g3.below hb,Nat.le_trans g4 hb.size⟩;rw[hb.block _ (by omega)];exact g2
 have hGS:∀ l W,St l W->Good Tryz.prog W:=λl W h=>hG.below ((hSt' l W).1 h).1;have hcell:∀ l W,St l W->W.heap[w.heap.size]? = some (.cells #[.string o.1,.slice ad n cap] 25):=λl W h=>((hSt' l W).1 h).2.1;have hz:tx.size+ls.size<=M:=by
  rw[ByteArray.size_append,ByteArray.size_append] at k4;omega
 have fin:(⟨(HL (tx++ls) eB o.2 n).toArray⟩:iII)=(tx++ls)++tN eB o.2:=by
  unfold HL;rw[<-hn,List.take_length]
 rw[<-fin];have go:(∀ W,St [] W->Calls Tryz.prog 36 #[.string o.1] W λe W'=>e = .returned (.string tx)/\St [] W') ->
   (∀ W,St [] W->Calls Tryz.prog 37 #[.int .i64 (n:Int)] W λe W'=>e = .returned (.string ls)/\St [] W') ->
   (∀ l s W,St l W->l.length+s.size<=M->Calls Tryz.prog 35 #[.pointer (some ⟨w.heap.size+1,0,none⟩),.string s] W λe W'=>e = .returned (.tuple #[.int .i64 s.size,.nilIface])/\St (l++s.data.toList) W') ->
   (∀ l W,St l W->Calls Tryz.prog 39 #[.pointer (some ⟨w.heap.size+1,0,none⟩)] W λe W'=>e = .returned (.string ⟨l.toArray⟩)/\Below w.heap.size w W') ->
   Calls Tryz.prog 12 #[.agg #[.string o.1,.slice ad n cap]] w λe w'=>e = .returned (.string ⟨(HL (tx++ls) eB o.2 n).toArray⟩)/\Below w.heap.size w w':=λaT aL aW aS=>by
  have hP0:HL (tx++ls) eB o.2 0=(tx++ls).data.toList:=by
   unfold HL;rw[List.take_zero];exact congrArg (λb:iII=>b.data.toList) ByteArray.append_empty
  have hPM:∀ k (h:k<o.2.length),(HL (tx++ls) eB o.2 k).length+(eB o.2[k]).size<=M:=λk h=>by
   have h1:=A8O (hd:=tx++ls) (eB:=eB) (l:=o.2) (k+1);rw[HM h,List.length_append] at h1;have:(eB o.2[k]).data.toList.length=(eB o.2[k]).size:=rfl;omega
  have hd:∀ l W,St l W->St l W.drew:=λl W h=>hb l W _ h ((Below.refl _ W).drew);have c0:∀ l W,St l W->W.cell? ⟨w.heap.size,0,none⟩=some (.string o.1):=λl W h=>by simp[World.cell?,hcell l W h]
  have c1:∀ l W,St l W->W.cell? ⟨w.heap.size,1,none⟩=some (.slice ad n cap):=λl W h=>by simp[World.cell?,hcell l W h]
  have hR:∀ l W,St l W->cK W (λ_=>False) (.sl false (List.map aM.enc o.2)) (.slice ad n cap):=λl W h=>hr.grow ((hSt' l W).1 h).1;have h20:St [] W2:=(hSt' _ _).2 ⟨b2,c2,h0,by omega⟩;cases ad with
  | none=>exact AN5 o.1 n cap w tx ls M o.2 hn hn9 St (HL (tx++ls) eB o.2) hz hM9 hP0 fe eB (λk h=>HM h) hPM (λk h=>hE _ (ak h)) W2 hW2 h20 hd hb hGS c0 c1 hR aT aL aW aS
  | some ad=>exact AN6 o.1 ad n cap w tx ls M o.2 hn hn9 St (HL (tx++ls) eB o.2) hz hM9 hP0 fe eB (λk h=>HM h) hPM (λk h=>hE _ (ak h)) W2 hW2 h20 hd hb hGS c0 c1 hR aT aL aW aS
 refine go (λW h=>?_) (λW h=>?_) (λl s W h hs=>?_) λl W h=>?_
 ·refine (ft.calls W (λ_=>False) _ _ _ (hGS _ _ h) (λ_ h=>h.elim) (dA.one (.v _)) gT).mono ?_;rintro e W' ⟨v,rfl,h1,h2⟩;cases h1;exact ⟨rfl,hb _ _ _ h h2⟩
 ·refine (fl.calls W (λ_=>False) _ _ _ (hGS _ _ h) (λ_ h=>h.elim) (dA.one (.v _)) gL).mono ?_;rintro e W' ⟨v,rfl,h1,h2⟩;cases h1;exact ⟨rfl,hb _ _ _ h h2⟩
 ·obtain ⟨g1,g2,g3,g4⟩:=(hSt' l W).1 h;refine (ANQ (w.heap.size+1) (w.heap.size+1) _ s W g3 (by rw[Lib.byteCells_length];omega) (by omega)).mono ?_;rintro e W' ⟨rfl,h1,h2⟩;refine ⟨rfl,(hSt' _ _).2 ⟨g1.trans (h2.mono (by omega)),by rw[h2.block _ (by omega)];exact g2,?_,Nat.le_trans g4 h2.size⟩⟩;rw[Lib.strCells_eq,<-Lib.byteCells_append] at h1;exact Or.inr h1
 ·obtain ⟨g1,g2,g3,g4⟩:=(hSt' l W).1 h;refine (AFM (w.heap.size+1) (w.heap.size+1) l W g3 (by omega)).mono ?_;rintro e W' ⟨rfl,_,h2⟩;exact ⟨rfl,g1.trans (h2.mono (by omega))⟩
variable {g:List T->Option T}
def A6M (fe:aP Tryz.prog 38 ge) (ft:aP Tryz.prog 36 gt) (fl:aP Tryz.prog 37 gl) (eB:aV->iII) (tx ls:iII) (o:dJ)
  (gT:gt [.v (.string o.1)]=some (.v (.string tx))) (gL:gl [.v (.int .i64 (o.2.length:Int))]=some (.v (.string ls))) (hE:∀ x∈o.2,ge [aH true aM x]=some (.v (.string (eB x)))) (k4:((tx++ls)++tN eB o.2).size<=1000000000) (k2:o.2.length<=1000000000) (hg:∀ args r,g args=some r->args=[aH true dB o]/\r = .v (.string ((tx++ls)++tN eB o.2))):aP Tryz.prog 12 g where
 entry:=⟨_,Tryz.func12,rfl,rfl⟩
 calls:=λw own args vs r hG ho ha hgr=>by
  obtain ⟨rfl,rfl⟩:=hg _ _ hgr;obtain ⟨hz,hv⟩:=ha;rcases vs with ⟨l⟩
  match l,hz,hv with
  | [v0],_,hv =>
   have h0:cK w own (T.agg [pPQ o.1,T.sl false (List.map aM.enc o.2)]) v0:=hv 0 Nat.zero_lt_one;cases h0 with
   | agg _ vc g1 g2 =>
    rcases vc with ⟨m⟩
    match m,g1,g2 with
    | [x0,x1],_,g2 =>
     have q0:cK w own (pPQ o.1) x0:=g2 0 (show 0<2 by decide);have q1:cK w own (T.sl false (List.map aM.enc o.2)) x1:=g2 1 (show 1<2 by decide);obtain ⟨ad,cap,rfl,_⟩:=q1.isSlice;cases q0;refine (AN4 fe ft fl eB tx ls o gT gL hE k4 k2 ad _ cap (by rw[ae]) w hG (q1.less λ_ h=>h.elim)).mono ?_;rintro e w' ⟨rfl,h2⟩;exact ⟨_,rfl,.v _,h2⟩
end Go.Pv
namespace Go.Pv
open Go Go.RowKit IntKind
section
variable {ag : Bool} {r : Sy}
def BBK {es:List (iII×r.den)} {seen:List Nat} {i:Nat} (hi:i<es.length) (K:iII->r.den->Prop) (hk:K es[i].1 es[i].2):BI .str ag r (List.map (bY .str ag r) es) (seen++[i]) K :=
 ⟨i,es[i].1,es[i].2,by simp,by simp[hi],hk⟩
abbrev AV8:=List iII×(Nat×List Nat×Nat)×PUnit
end
end Go.Pv
namespace Go.Pv
open Go Go.Proofs IntKind
def ALD {ag:Bool} {r:Sy} {es:List (iII×r.den)} {E:List (Value×D)} (hE:E=List.map (bY .str ag r) es) {o:List iII} (P:iII×r.den->Bool)
  {EXIT:AV8->Prop} {BODY:(AV8->Prop)->AV8->Nat->iII->r.den->Prop}
  (hbody:∀ (X:AV8->Prop) (out:List iII) (seen:List Nat) (i:Nat) (hi:i<es.length),out.length<=o.length+seen.length->seen.length<es.length ->
   (P es[i]=true->X (out++[es[i].1],(E.length,seen++[i],E.length),()))->(P es[i]=false->X (out,(E.length,seen++[i],E.length),()))->BODY X (out,(E.length,seen,E.length),()) i es[i].1 es[i].2)
  (hexit:∀ (o2:List iII) (seen:List Nat),(∀ s,s∈o2↔∃ e∈es,e.1=s/\P e=true)->o2.length<=es.length->((es.map λe=>e.1).Nodup->o2.Nodup)->EXIT (o++o2,(E.length,seen,E.length),())) :
  bD AV8 (λX s=>bQ (decide (E.length<=s.2.1.1)&&decide (s.2.1.1<=s.2.1.2.2)) (rY E.length s.2.1.2.1 (EXIT s) λi=>bQ (decide (E.length=E.length)) (BI .str ag r E (s.2.1.2.1++[i]) λk v=>BODY X s i k v))) (o,(E.length,[],E.length),()):=by
 have hn:E.length=es.length:=by rw[hE,ae]
 refine AP2 (λs=>∃ (seen:List Nat) (o2:List iII),s=(o++o2,(E.length,seen,E.length),())/\seen.Nodup/\(∀ i∈seen,i<es.length)/\(∀ s,s∈o2↔∃ i∈seen,∃ e,es[i]? = some e/\e.1=s/\P e=true)/\o2.length<=seen.length/\((es.map λe=>e.1).Nodup->o2.Nodup)/\seen.length+(cM E.length seen).length<=E.length) (λs=>(cM E.length s.2.1.2.1).length) ⟨[],[],by rw[List.append_nil],by simp,by simp,by simp,by simp,by simp,by rw[yZ];simp⟩ ?_;rintro X s ⟨seen,o2,rfl,hnd,hlt,hm,hl,hon,hq⟩ hX;dsimp only;refine ⟨by simp,λhnil=>?_,λi hi=>⟨by simp,?_⟩⟩
 ·refine hexit o2 seen (λs=>?_) (by omega) hon;rw[hm];constructor
  ·rintro ⟨i,_,e,he,h1,h2⟩;exact ⟨e,List.mem_of_getElem? he,h1,h2⟩
  ·rintro ⟨e,he,h1,h2⟩;obtain ⟨i,hi,rfl⟩:=List.mem_iff_getElem.1 he;refine ⟨i,?_,_,List.getElem?_eq_getElem hi,h1,h2⟩;refine Classical.byContradiction λhc=>?_;have:i∈cM E.length seen:=mL.2 ⟨by omega,hc⟩;rw[hnil] at this;cases this
 ·have hi':=mL.1 hi;have hie:i<es.length:=by omega
  have hst:=vR hi;subst hE;have hnd2:(seen++[i]).Nodup:=by
   rw[List.nodup_append];exact ⟨hnd,by simp,λa ha b hb=>by simp at hb;subst hb;exact λe=>hi'.2 (e ▸ ha)⟩
  have hlt2:∀ j∈seen++[i],j<es.length:=λj hj=>by
   rcases List.mem_append.1 hj with h|h
   ·exact hlt j h
   ·simp at h;omega
  have hpos:=List.length_pos_of_mem hi;have hq2:(seen++[i]).length+(cM (List.map (bY .str ag r) es).length (seen++[i])).length<=(List.map (bY .str ag r) es).length:=by simp only[List.length_append,List.length_singleton];omega
  refine BBK hie _ (hbody X _ seen i hie (by rw[List.length_append];omega) (by omega) (λhP=>?_) λhP=>?_)
  ·refine hX _ ⟨seen++[i],o2++[es[i].1],by rw[List.append_assoc],hnd2,hlt2,λs=>?_,by simp;omega,?_,hq2⟩ hst
   case refine_2 =>
    intro hk;rw[List.nodup_append];refine ⟨hon hk,by simp,λx hx y hy e=>?_⟩;rw[List.mem_singleton.1 hy] at e;obtain ⟨j,hj,e',he',h1,_⟩:=(hm x).1 hx;obtain ⟨hjl,rfl⟩:=List.getElem?_eq_some_iff.1 he';have hne:j≠i:=λh=>hi'.2 (h ▸ hj);have h2:(es.map λe=>e.1)[j]'(by simpa using hjl)=(es.map λe=>e.1)[i]'(by simpa using hie):=by simp[h1,e]
    rcases Nat.lt_or_gt_of_ne hne with h|h
    ·exact List.pairwise_iff_getElem.1 hk _ _ _ _ h h2
    ·exact List.pairwise_iff_getElem.1 hk _ _ _ _ h h2.symm
   rw[List.mem_append,hm,List.mem_singleton];constructor
   ·rintro (⟨j,hj,h⟩|rfl)
    ·exact ⟨j,List.mem_append_left _ hj,h⟩
    ·exact ⟨i,by simp,_,List.getElem?_eq_getElem hie,rfl,hP⟩
   ·rintro ⟨j,hj,e,he,h1,h2⟩;rcases List.mem_append.1 hj with h|h
    ·exact .inl ⟨j,h,e,he,h1,h2⟩
    ·rw[List.mem_singleton.1 h,List.getElem?_eq_getElem hie] at he;cases he;exact .inr h1.symm
  ·refine hX _ ⟨seen++[i],o2,rfl,hnd2,hlt2,λs=>?_,by simp;omega,hon,hq2⟩ hst;rw[hm];constructor
   ·rintro ⟨j,hj,h⟩;exact ⟨j,List.mem_append_left _ hj,h⟩
   ·rintro ⟨j,hj,e,he,h1,h2⟩;rcases List.mem_append.1 hj with h|h
    ·exact ⟨j,h,e,he,h1,h2⟩
    ·rw[List.mem_singleton.1 h,List.getElem?_eq_getElem hie] at he;cases he;rw[hP] at h2;cases h2
def VI {α:Type} {k:iII} {v:α}:∀ {es:List (iII×α)},k∈es.map (λe=>e.1)->(nO es k v).map (λe=>e.1)=es.map (λe=>e.1)
 | [],h=>by cases h
 | e::es,h=>by
  unfold nO;by_cases h1:e.1=k
  ·simp[h1]
  ·rw[if_neg h1,List.map_cons,VI ((List.mem_cons.1 h).resolve_left λe'=>h1 e'.symm)];rfl
variable {α:Type}
def ABG {k:iII} {v:α} {es:List (iII×α)} (h:k∉es.map (λe=>e.1)):(nO es k v).map (λe=>e.1)=es.map (λe=>e.1)++[k]:=by
 rw[G8 λe he h'=>h (List.mem_map.2 ⟨e,he,h'⟩),List.map_append];rfl
def ABE {k:iII}:∀ {es:List (iII×Bool)},(∀ e∈es,e.2=true)->∀ e∈nO es k true,e.2=true
 | [],_,e,h=>by rw[nO,List.mem_singleton] at h;rw[h]
 | a::es,hp,e,h=>by
  unfold nO at h;split at h
  ·rcases List.mem_cons.1 h with h|h
   ·rw[h]
   ·exact hp e (List.mem_cons_of_mem _ h)
  ·rcases List.mem_cons.1 h with h|h
   ·rw[h];exact hp a am
   ·exact ABE (λe he=>hp e (List.mem_cons_of_mem _ he)) e h
def wG (p:iII->Prop) (n:Nat) (es:List (iII×Bool)):Prop:=(es.map λe=>e.1).Nodup/\(∀ s,s∈es.map (λe=>e.1)↔p s)/\es.length<=n/\∀ e∈es,e.2=true
variable {es:List (iII×Bool)}
def wG.ins {p q:iII->Prop} {n:Nat} {k:iII} (h:wG p n es) (hq:∀ s,q s↔p s\/s=k):wG q (n+1) (nO es k true):=by
 refine ⟨?_,λs=>?_,?_,ABE h.2.2.2⟩
 ·by_cases hm:k∈es.map (λe=>e.1)
  ·rw[VI hm];exact h.1
  ·rw[ABG hm,List.nodup_append];exact ⟨h.1,by simp,λa ha b hb e=>hm (by rw[List.mem_singleton.1 hb] at e;rw[<-e];exact ha)⟩
 ·rw[hq,<-h.2.1];by_cases hm:k∈es.map (λe=>e.1)
  ·rw[VI hm];exact ⟨.inl,λh'=>h'.elim (λh=>h) λe=>by rw[e];exact hm⟩
  ·rw[ABG hm,List.mem_append,List.mem_singleton]
 ·have:=ABF (k:=k) (v:=true) (es:=es);have:=h.2.2.1;omega
def wG.mono {p q:iII->Prop} {n m:Nat} (h:wG p n es) (hq:∀ s,q s↔p s) (hm:n<=m):wG q m es:=⟨h.1,λs=>by rw[hq];exact h.2.1 s,Nat.le_trans h.2.2.1 hm,h.2.2.2⟩
def wG.get {p:iII->Prop} {n:Nat} (h:wG p n es) (s:iII):(fF es s=none/\¬ p s)\/(fF es s=some true/\p s):=by
 rcases q8 s es with ⟨h1,h2⟩|⟨j,hj,h1,_,h3⟩
 ·refine .inl ⟨h1,λhp=>?_⟩;obtain ⟨e,he,h⟩:=List.mem_map.1 ((h.2.1 s).2 hp);exact h2 e he h
 ·refine .inr ⟨by rw[h3,h.2.2.2 _ (ak hj)],(h.2.1 s).1 (List.mem_map.2 ⟨_,ak hj,h1⟩)⟩
abbrev AC7 (gt:List T->Option T) (l:List aV) (EXIT:Int×List (iII×Bool)×PUnit->Prop):Prop :=
 cO Sy.str false Sy.bool [] λy0=>bD (Int×List (iII×Bool)×PUnit) (λX1 s2=>aC (decide (s2.1<(↑(List.map aM.enc l).length:Int)))
  (aX aM (List.map aM.enc l) s2.1 λy3=>aJ [(false,Sy.str.li)] (gt [aH true aM y3]) λ(y4:List iII) =>
   cO Sy.str false Sy.bool (List.map (bY Sy.str false Sy.bool) s2.2.1) λy5 =>
    bD (Int×List (iII×Bool)×PUnit) (λX6 s7=>aC (decide (s7.1<(↑(List.map Sy.str.enc y4).length:Int)))
     (aX Sy.str (List.map Sy.str.enc y4) s7.1 λy8=>eE (Option (Nat×D)) (findD TypeDesc.string (Value.string y8) (List.map (bY Sy.str false Sy.bool) s7.2.1) 0) λy9 =>
      cO Sy.str false Sy.bool (dZ (List.map (bY Sy.str false Sy.bool) s7.2.1) y9 (Value.string y8) (D.p (pPR true))) λy10=>X6 (i64.wrap (s7.1+1),y10,()))
     (cO Sy.str false Sy.bool (List.map (bY Sy.str false Sy.bool) s7.2.1) λy11=>X1 (i64.wrap (s2.1+1),y11,()))) (0,y5,()))
  (EXIT s2)) (0,y0,())
variable {gt:List T->Option T}{M:Nat}{EXIT:Int×List (iII×Bool)×PUnit->Prop}
def AIM {tf:aV->List iII} {l:List aV} (hM:M<=3000000) (hNm:∀ e∈l,(tf e).length<=M) (hok:∀ e∈l,gt [aH true aM e]=some (Sh.enc [(false,Sy.str.li)] (tf e))) (hl:l.length<=100000)
  (hE:∀ i es,wG (λs=>∃ e∈l,s∈tf e) (l.length*M) es->EXIT (i,es,())):AC7 gt l EXIT:=by
 refine jY (r:=.bool) rfl [] _ ?_;refine bP l.length (λk s=>s.1=(k:Int)/\wG (λs=>∃ e∈l.take k,s∈tf e) (k*M) s.2.1) ⟨rfl,List.Pairwise.nil,λs=>Iff.intro (λh=>by cases h) (λh=>by obtain ⟨e,he,_⟩:=h;rw[List.take_zero] at he;cases he),Nat.zero_le _,λe he=>by cases he⟩ ?_;rintro X k ⟨i,es,u⟩ hk ⟨rfl,hs⟩ hX;dsimp only at hs ⊢;rw[ae];refine cC (λhlt=>?_) λhge=>?_
 ·have hlt:k<l.length:=by omega
  rw[bK (r:=aM) hlt];have hw:∀ {j:Nat},j<=3000000->i64.wrap ((j:Int)+1)=((j+1:Nat):Int):=λh=>bH _ (by omega) (by omega);refine aG (s:=[(false,Sy.str.li)]) (y:=tf l[k]) (hok _ (ak hlt)) ?_;refine jY (r:=.bool) rfl _ _ ?_;have hN:(tf l[k]).length<=M:=hNm _ (ak hlt);generalize hB:tf l[k]=B at hN ⊢;refine bP B.length (λj s=>s.1=(j:Int)/\wG (λs=>(∃ e∈l.take k,s∈tf e)\/s∈B.take j) (k*M+j) s.2.1) ⟨rfl,hs.mono (λs=>by simp) (by omega)⟩ ?_;rintro Y j ⟨i,es2,u⟩ hj ⟨rfl,hs2⟩ hY;dsimp only at hs2 ⊢;rw[ae];refine cC (λhlt2=>?_) λhge2=>?_
  ·have hlt2:j<B.length:=by omega
   rw[bK (r:=.str) hlt2];refine AKG (r:=.bool) rfl ?_;refine hY _ hlt2 ⟨hw (by omega),hs2.ins λs=>?_⟩;rw[List.take_succ_eq_append_getElem hlt2,List.mem_append,List.mem_singleton,or_assoc]
  ·have:j=B.length:=by omega
   subst this;refine jY (r:=.bool) rfl _ _ ?_;refine hX _ hlt ⟨hw (by omega),hs2.mono (λs=>?_) (by rw[Nat.succ_mul];omega)⟩;show (∃ e,e∈l.take (k+1)/\s∈tf e)↔(∃ e,e∈l.take k/\s∈tf e)\/s∈B.take B.length;rw[List.take_length,List.take_succ_eq_append_getElem hlt];constructor
   ·rintro ⟨e,he,h⟩;rcases List.mem_append.1 he with he|he
    ·exact .inl ⟨e,he,h⟩
    ·rw[List.mem_singleton.1 he,hB] at h;exact .inr h
   ·rintro (⟨e,he,h⟩|h)
    ·exact ⟨e,List.mem_append_left _ he,h⟩
    ·exact ⟨l[k],List.mem_append_right _ (List.mem_singleton.2 rfl),by rw[hB];exact h⟩
 ·have:k=l.length:=by omega
  subst this;rw[List.take_length] at hs;exact hE _ _ hs
end Go.Pv
namespace Go.Pv
open Go Go.Proofs IntKind
def nL (l:List UInt8):iII:=⟨l.toArray⟩
def BJK:a8:=(nL [],0,0,nL [],nL [],0,([],[]),nL [],0,0,(0,0,0),(0,0,0),0)
def BBG (k:Int) (a b:iII):aV:=(k,a,b,(nL [],0,nL []),BJK,(nL [],nL [],nL [],0,0,0),(nL [],nL [],[],0,[]),(0,nL [],nL []))
def Q3 (n:Nat):aV:=match n with
 | 0=>BBG 6 (nL [80,49]) (nL [65,49])
 | 1=>BBG 2 (nL [65,50]) (nL [])
 | _=>BBG 4 (nL [80,49]) (nL [])
def o20:dJ:=(nL [67,49],[Q3 0,Q3 1])
def c20:dJ:=(nL [],[Q3 2])
def t20:List UInt8:=[64,0,64,64,0,0,64,64,0,128,128,64,0,0,0,0,0,0,0,0,0,64,64,64,0,0,0,64,64,128,0,128,0,64,64]
def b20 (n:Nat):iII:=match n with
 | 0=>nL ([6,66,80,49,66,65,49]++t20)
 | _=>nL ([2,66,65,50,64]++t20)
def JB:FuncId->Bool:=λf=>[60,71,113,245,111,110].contains f
def HD:Env:=Env.of [(7000000000+92,.mark)]
def uJ:aU Tryz.prog HD:=aU.cons (x:=.mark) trivial (aU.nil _)
noncomputable def BCV:List T->Option T:=OU Tryz.prog 400 JB HD 40 38
def A6T:aP Tryz.prog 38 BCV:=mA aZ a7 400 JB uJ 40 (oA (k:=39) (fn:=_) (c:=_) (by kernel_rfl) Tryz.func38 rfl (by kernel_rfl))
noncomputable def BHW:List T->Option T:=OU Tryz.prog 400 JB HD 40 36
def A6V:aP Tryz.prog 36 BHW:=mA aZ a7 400 JB uJ 40 (oA (k:=39) (fn:=_) (c:=_) (by kernel_rfl) Tryz.func36 rfl (by kernel_rfl))
noncomputable def BHU:List T->Option T:=OU Tryz.prog 400 JB HD 40 37
def A6U:aP Tryz.prog 37 BHU:=mA aZ a7 400 JB uJ 40 (oA (k:=39) (fn:=_) (c:=_) (by kernel_rfl) Tryz.func37 rfl (by kernel_rfl))
noncomputable def AX6:List T->Option T:=OU Tryz.prog 400 JB HD 40 70
def A6W:aP Tryz.prog 70 AX6:=mA aZ a7 400 JB uJ 40 (oA (k:=39) (fn:=_) (c:=_) (by kernel_rfl) Tryz.func70 rfl (by kernel_rfl))
def BBI:BCV [aH true aM (Q3 0)]=some (.v (.string (b20 0))):=by kernel_rfl
def BBJ:BCV [aH true aM (Q3 1)]=some (.v (.string (b20 1))):=by kernel_rfl
def BJM:BHW [.v (.string (nL [67,49]))]=some (.v (.string (nL [66,67,49]))):=by kernel_rfl
def BJH:BHU [.v (.int .i64 2)]=some (.v (.string (nL [130]))):=by kernel_rfl
def BHJ (x:aV):iII:=if x.1=6 then b20 0 else b20 1
noncomputable def r20:iII:=(nL [66,67,49]++nL [130])++tN BHJ o20.2
def w20:iII:=nL ([66,67,49,130,6,66,80,49,66,65,49]++t20++[2,66,65,50,64]++t20)
def BIP:r20=w20:=by kernel_rfl
noncomputable def BCU:List T->Option T:=gD (EB [([aH true dB o20],.v (.string w20))])
def A6R:aP Tryz.prog 12 BCU:=(A6M A6T A6V A6U BHJ (nL [66,67,49]) (nL [130]) o20 BJM BJH (λx hx=>by
  simp only[o20,List.mem_cons,List.not_mem_nil,or_false] at hx;rcases hx with rfl|rfl
  ·exact BBI
  ·exact BBJ) (by show r20.size<=_;rw[BIP];decide +kernel) (by decide) (g:=EB [([aH true dB o20],.v (.string w20))]) λargs r h=>by
  cases List.mem_singleton.1 (z8 h);exact ⟨rfl,by rw[<-BIP];rfl⟩).deep
def AKB:FuncId->Bool:=λf=>[29,73,74,75,52,30,31,57,33,32,54,56,53,55,76,77,78].contains f
noncomputable def BHV:List T->Option T:=A19 Tryz.prog 400 AKB HD 40 32
def i20:T:=.v (.int .i64 0)
def x20:iII:=nL ([6,66,80,49,66,65,49]++t20++[2,66,65,50,64]++t20)
def BE2:BHV [.agg [.v (.string x20),i20]]=some (.b9 [.agg [.v (.string (b20 1)),i20],aH true aM (Q3 0)]):=by kernel_rfl
def BE3:BHV [.agg [.v (.string (b20 1)),i20]]=some (.b9 [.agg [.v (.string (nL [])),i20],aH true aM (Q3 1)]):=by kernel_rfl
noncomputable def BCW:List T->Option T:=EB [([.agg [.v (.string x20),i20]],.b9 [.agg [.v (.string (b20 1)),i20],aH true aM (Q3 0)]),([.agg [.v (.string (b20 1)),i20]],.b9 [.agg [.v (.string (nL [])),i20],aH true aM (Q3 1)])]
def A6X:cF Tryz.prog 32 (wI BCW):=Z5 (AHI aZ a7 400 AKB uJ 40 Tryz.func32 rfl) λargs r h=>by
 rcases List.mem_cons.1 (z8 h) with h|h
 ·cases h;exact BE2
 ·cases List.mem_singleton.1 h;exact BE3
noncomputable def AZX:Env:=Env.of [(32,.AP6 BCW)]
def APX:aU Tryz.prog AZX:=aU.cons (x:=.AP6 BCW) A6X (aU.nil _)
noncomputable def BHT:List T->Option T:=OU Tryz.prog 400 AKB AZX 40 10
def A6S:aP Tryz.prog 10 BHT:=mA aZ a7 400 AKB APX 40 (oA (k:=39) (fn:=_) (c:=_) (by kernel_rfl) Tryz.func10 rfl (by kernel_rfl))
def BJB:BHT [.v (.string w20)]=some (.b9 [aH true dB o20,.v (.int .i64 0)]):=by kernel_rfl
noncomputable def BCT:List T->Option T:=EB [([.v (.string w20)],.b9 [aH true dB o20,.v (.int .i64 0)])]
def A6Q:aP Tryz.prog 10 BCT:=GV A6S λx hx=>by
 cases List.mem_singleton.1 hx;exact BJB
noncomputable def G4:List T->Option T:=AX6
def A62:aP Tryz.prog 70 G4:=A6W
def AJG (x:aV):List iII:=if x.1=6 then [nL [65,49],nL [80,49]] else if x.1=2 then [nL [65,50]] else [nL [80,49]]
def BFC:AX6 [aH true aM (Q3 0)]=some (Sh.enc [(false,Sy.str.li)] (AJG (Q3 0))):=by kernel_rfl
def BFD:AX6 [aH true aM (Q3 1)]=some (Sh.enc [(false,Sy.str.li)] (AJG (Q3 1))):=by kernel_rfl
def BFE:AX6 [aH true aM (Q3 2)]=some (Sh.enc [(false,Sy.str.li)] (AJG (Q3 2))):=by kernel_rfl
def EK:List (List T)->Option (List (List T)):=qZ
def AGZ (l:List iII) (K:List (List T)->Prop):eE (List (List T)) (EK (List.map Sy.str.enc l)) K=K (List.map Sy.str.enc (lD eC l)):=xZ l K
def AX1:cF Tryz.prog 71 (xK 1 EK):=GR
noncomputable def BAG:Env:=Env.of [(70,.pure G4),(71,.perm 1 EK)]
def BAW:FuncId->Hint:=λf=>match f == 46 with|true=>⟨AKN [(3,.alt [.val 12 false (.int .i64),.map 7 .str false .bool] [.val 12 false (.int .i64),.map 3 .str false .bool]),(6,.alt [.val 19 false (.int .i64),.map 7 .str false .bool] [.val 19 false (.int .i64),.map 3 .str false .bool])],λ_ _=>none,λ_=>none⟩|false=>match f == 47 with|true=>⟨λr=>match r == 3 with|true=>.inv [.own 5 1 .str,.nD 8 (some 7)]|false=>.none,λ_ _=>none,λr=>match r == 4 with|true=>some (.str,false,.bool)|false=>none⟩|false=>bA
def ATI:aU Tryz.prog BAG:=.cons A62 (.cons AX1 (.nil _))
def BMO:Sh:=[(false,Sy.str.li)]
def BMX(s14:Int×List (iII×Bool)×PUnit)(s25:List iII×(Nat×List Nat×Nat)×PUnit)(i27:Nat)(s2:Int×List (iII×Bool)×PUnit)(X24:List iII×(Nat×List Nat×Nat)×PUnit->Prop):Prop:=bQ (decide ((List.map (bY Sy.str false Sy.bool) s14.2.1).length = (List.map (bY Sy.str false Sy.bool) s14.2.1).length)) (BI Sy.str false Sy.bool (List.map (bY Sy.str false Sy.bool) s14.2.1) (s25.2.1.2.1++[i27]) λ(k28:iII) (y29:Bool)=>gR TypeDesc.string (Value.string k28) (List.map (bY Sy.str false Sy.bool) s2.2.1) false Sy.bool (jI Sy.str (List.map Sy.str.enc s25.1) λ(y34:List iII)=>X24 (y34, (s25.2.1.1,s25.2.1.2.1++[i27], (List.map (bY Sy.str false Sy.bool) s14.2.1).length), ())) λ(i30:Nat) (y31:Bool)=>aC y31 (bQ (decide (((List.map Sy.str.enc s25.1).length+1)*16<=140737488355328) && decide ((List.map Sy.str.enc s25.1).length+1<=140737488355328)) (jI Sy.str (List.map Sy.str.enc s25.1++[[pPQ k28]]) λ(y32:List iII)=>X24 (y32, (s25.2.1.1,s25.2.1.2.1++[i27], (List.map (bY Sy.str false Sy.bool) s14.2.1).length), ()))) (jI Sy.str (List.map Sy.str.enc s25.1) λ(y33:List iII)=>X24 (y33, (s25.2.1.1,s25.2.1.2.1++[i27], (List.map (bY Sy.str false Sy.bool) s14.2.1).length), ())))
def BMY(s14:Int×List (iII×Bool)×PUnit)(y16:List iII)(X13:Int×List (iII×Bool)×PUnit->Prop):Prop:=cO Sy.str false Sy.bool (List.map (bY Sy.str false Sy.bool) s14.2.1) λ(y17:List (iII×Bool))=>bD (Int×List (iII×Bool)×PUnit) (λX18 s19=>aC (decide (s19.1<(↑(BM3 y16).length:Int))) (aX Sy.str (BM3 y16) s19.1 λ(y20:iII)=>eE (Option (Nat×D)) (findD TypeDesc.string (Value.string y20) (List.map (bY Sy.str false Sy.bool) s19.2.1) 0) λ(y21:Option (Nat×D))=>cO Sy.str false Sy.bool (dZ (List.map (bY Sy.str false Sy.bool) s19.2.1) y21 (Value.string y20) (D.p BMP)) λ(y22:List (iII×Bool))=>X18 (i64.wrap (s19.1+1),y22,())) (cO Sy.str false Sy.bool (List.map (bY Sy.str false Sy.bool) s19.2.1) λ(y23:List (iII×Bool))=>X13 (i64.wrap (s14.1+1),y23,()))) (0,y17,())
def BMZ(s2:Int×List (iII×Bool)×PUnit)(y4:List iII)(X1:Int×List (iII×Bool)×PUnit->Prop):Prop:=cO Sy.str false Sy.bool (List.map (bY Sy.str false Sy.bool) s2.2.1) λ(y5:List (iII×Bool))=>bD (Int×List (iII×Bool)×PUnit) (λX6 s7=>aC (decide (s7.1<(↑(BM3 y4).length:Int))) (aX Sy.str (BM3 y4) s7.1 λ(y8:iII)=>eE (Option (Nat×D)) (findD TypeDesc.string (Value.string y8) (List.map (bY Sy.str false Sy.bool) s7.2.1) 0) λ(y9:Option (Nat×D))=>cO Sy.str false Sy.bool (dZ (List.map (bY Sy.str false Sy.bool) s7.2.1) y9 (Value.string y8) (D.p BMP)) λ(y10:List (iII×Bool))=>X6 (i64.wrap (s7.1+1),y10,())) (cO Sy.str false Sy.bool (List.map (bY Sy.str false Sy.bool) s7.2.1) λ(y11:List (iII×Bool))=>X1 (i64.wrap (s2.1+1),y11,()))) (0,y5,())
def AER(a0:dJ)(a1:dJ)(R:T->Prop):Prop:=cO Sy.str false Sy.bool [] λ(y0:List (iII×Bool))=>bD (Int×List (iII×Bool)×PUnit) (λX1 s2=>aC (decide (s2.1<(↑(BNB a1).length:Int))) (aX aM (BNB a1) s2.1 λ(y3:aV)=>aJ BMO (G4 [aH true aM y3]) λ(y4:List iII)=>BMZ s2 y4 X1) (cO Sy.str false Sy.bool [] λ(y12:List (iII×Bool))=>bD (Int×List (iII×Bool)×PUnit) (λX13 s14=>aC (decide (s14.1<(↑(BNB a0).length:Int))) (aX aM (BNB a0) s14.1 λ(y15:aV)=>aJ BMO (G4 [aH true aM y15]) λ(y16:List iII)=>BMY s14 y16 X13) (bD (List iII×(Nat×List Nat×Nat)×PUnit) (λX24 s25=>bQ (decide ((List.map (bY Sy.str false Sy.bool) s14.2.1).length <= s25.2.1.1) && decide (s25.2.1.1<=s25.2.1.2.2)) (rY (List.map (bY Sy.str false Sy.bool) s14.2.1).length s25.2.1.2.1 (eE (List (List T)) (EK (List.map Sy.str.enc s25.1)) λ(y26:List (List T))=>R (T.sl false y26)) λ(i27:Nat)=>BMX s14 s25 i27 s2 X24)) ([], ((List.map (bY Sy.str false Sy.bool) s14.2.1).length,[], (List.map (bY Sy.str false Sy.bool) s14.2.1).length), ()))) (0,y12,()))) (0,y0,())
abbrev AIA:Sh:=[(true,dB),(true,dB)]
def p20:iII:=nL [80,49]
noncomputable def AS (x:dJ×dJ):Option T:=match l8 x.1 o20&&l8 x.2 c20 with
 | true=>some (T.sl false (List.map Sy.str.enc [p20]))
 | false=>none
noncomputable def AGN:List T->Option T:=gS AIA AS
def APD {a0 a1}:AGN [aH true dB a0,aH true dB a1]=AS (a0,a1):=bJ (s:=AIA) rfl (a0,a1) rfl
def A73:sP Tryz.prog 18 AGN AS (cJ AIA) AER:=iH (a1:=(true,dB)) (a2:=(true,dB)) (sp:=AS) (F:=AER) (Hs:=BAW) (f:=18) (k:=10) ATI aZ a7 (aO rfl) ⟨_,_,Tryz.func18,rfl⟩ rfl λ_ _ _=>by kernel_rfl
variable {α:Type}
def A8K {a:α}:∀ {l:List α},l.Nodup->(∀ s,s∈l↔s=a)->l=[a]
 | [],_,h=>by have:=(h a).2 rfl;cases this
 | [b],_,h=>by rw[(h b).1 am]
 | b::c::l,hn,h=>by
  have h1:=(h b).1 am;have h2:=(h c).1 (List.mem_cons_of_mem _ am);exact absurd (List.mem_cons.2 (.inl (h1.trans h2.symm))) (List.pairwise_cons.1 hn |>.1 b |> λf hm=>(List.nodup_cons.1 hn).1 hm)
def A6I:aP Tryz.prog 18 AGN:=A73 λa b r h hb=>by
 clear hb;unfold AS at h;split at h
 case h_2=>cases h
 rename_i hc;cases h;rw[ac] at hc;obtain rfl:a=o20:=dX.1 hc.1;obtain rfl:b=c20:=dX.1 hc.2;clear hc;unfold AER BNB BMZ BMY BMX BM3 BMP BMO;have oc:∀ e∈c20.2,e=Q3 2:=λe he=>List.mem_singleton.1 he;have oo:∀ e∈o20.2,e=Q3 0\/e=Q3 1:=λe he=>by
  rcases List.mem_cons.1 he with h|h
  ·exact .inl h
  ·exact .inr (List.mem_singleton.1 h)
 refine AIM (gt:=G4) (tf:=AJG) (M:=2) (l:=c20.2) (by omega) (λe he=>by rw[oc e he];decide) (λe he=>by rw[oc e he];exact BFE) (by decide) λ_ eb sb=>?_;refine AIM (gt:=G4) (tf:=AJG) (M:=2) (l:=o20.2) (by omega) (λe he=>by rcases oo e he with h|h<;>rw[h]<;>decide) (λe he=>by
  rcases oo e he with h|h
  ·rw[h];exact BFC
  ·rw[h];exact BFD) (by decide) λ_ es hs=>?_
 have hz:es.length<=4:=hs.2.2.1;have sb1:∀ s,(∃ e∈c20.2,s∈AJG e)↔s=p20:=λs=>⟨λ⟨e,he,h⟩=>by rw[oc e he] at h;exact List.mem_singleton.1 h,λh=>⟨Q3 2,List.mem_singleton.2 rfl,by rw[h];exact List.mem_singleton.2 rfl⟩⟩
 have hs1:∃ e∈o20.2,p20∈AJG e:=⟨Q3 0,am,List.mem_cons_of_mem _ am⟩
 refine ALD (ag:=false) (r:=.bool) rfl (λe=>(fF eb e.1).isSome) (λX out seen i hi h1 h2 hy hn=>?_) λo2 seen hm hl2 hnd=>?_
 ·have h1:out.length<=0+seen.length:=h1;have h2:seen.length<es.length:=h2;dsimp only;refine vB (r:=.bool) (λhg=>?_) λj v hg=>?_
  ·rw[dP (r:=.str) rfl];exact hn (by dsimp only;rw[hg];rfl)
  ·rcases sb.get es[i].1 with ⟨h,_⟩|⟨h,_⟩
   ·rw[h] at hg;cases hg
   ·rw[h] at hg;cases hg;rw[jS,AFI (by omega),MX];exact hy (by dsimp only;rw[h];rfl)
 ·show eE (List (List T)) (EK (List.map Sy.str.enc ([]++o2))) _;rw[List.nil_append,AGZ];have e:o2=[p20]:=A8K (hnd hs.1) λs=>by
   rw[hm,<-sb1];constructor
   ·rintro ⟨e,he,rfl,h⟩;rcases sb.get e.1 with ⟨h',_⟩|⟨_,h'⟩
    ·rw[h'] at h;cases h
    ·exact h'
   ·intro h;have hp:=(sb1 s).1 h;obtain ⟨e,he,h1⟩:=List.mem_map.1 ((hs.2.1 s).2 (by rw[hp];exact hs1));refine ⟨e,he,h1,?_⟩;rcases sb.get s with ⟨_,h'⟩|⟨h',_⟩
    ·exact absurd h h'
    ·rw[h1,h'];rfl
  rw[e,show lD eC [p20]=[p20] by unfold lD eC;simp[pV]]
noncomputable def BCS:List T->Option T:=gD (EB [([aH true dB o20,aH true dB c20],.sl false [[.v (.string p20)]])])
def A6P:aP Tryz.prog 18 BCS:=(GV A6I λx hx=>by
 cases List.mem_singleton.1 hx;rw[APD];unfold AS;rw[dX.2 rfl,dX.2 rfl];rfl).deep
end Go.Pv
namespace Go.Pv
open Go Go.Proofs IntKind
noncomputable def AZZ:Env:=Env.of [(66,.pure (EB Q4)),(83,.pure sV),(318,.fresh (qC 1 8)),(103,.fresh (qC 3 40)),(104,.fresh (qC 6 72)),(105,.fresh (qC 3 40)),(136,.fresh (qC 2 16)),(137,.fresh (qC 1 24)),(106,.fresh (qC 18 208)),(107,.fresh (qC 5 88)),(243,.fresh (qC 1 16)),(280,.grow 3 kL),(5000000000+38,.mark)]
def APZ:aU Tryz.prog AZZ:=aU.cons (x:=.pure (EB Q4)) AJ4 (aU.cons (x:=.pure sV) xI (aU.cons (x:=.fresh (qC 1 8)) ZT (aU.cons (x:=.fresh (qC 3 40)) RA (aU.cons (x:=.fresh (qC 6 72)) RD (aU.cons (x:=.fresh (qC 3 40)) Q9 (aU.cons (x:=.fresh (qC 2 16)) AJ2 (aU.cons (x:=.fresh (qC 1 24)) ZU (aU.cons (x:=.fresh (qC 18 208)) RC (aU.cons (x:=.fresh (qC 5 88)) RB (aU.cons (x:=.fresh (qC 1 16)) ZV (aU.cons (x:=.grow 3 kL) CY (aU.cons (x:=.mark) trivial (aU.nil _)))))))))))))
noncomputable def gIn:List T->Option T:=OU Tryz.prog 400 AKC AZZ 40 44
def BB6:aP Tryz.prog 44 gIn:=mA aZ a7 400 AKC APZ 40 (oA (k:=39) (fn:=_) (c:=_) (by kernel_rfl) Tryz.func44 rfl (by kernel_rfl))
def BC6:FuncId->Bool:=λf=>[260,86,128,45].contains f
noncomputable def AKI:Env:=Env.of [(83,.pure sV),(66,.pure (EB Q4)),(44,.pure gIn),(12,.pure BCU),(10,.pure BCT),(18,.pure BCS),(5000000000+38,.mark)]
def AHA:aU Tryz.prog AKI:=aU.cons (x:=.pure sV) xI (aU.cons (x:=.pure (EB Q4)) AJ4 (aU.cons (x:=.pure gIn) BB6 (aU.cons (x:=.pure BCU) A6R (aU.cons (x:=.pure BCT) A6Q (aU.cons (x:=.pure BCS) A6P (aU.cons (x:=.mark) trivial (aU.nil _)))))))
def BHX:List T->Option T:=λargs=>match args with | []=>some (.v (.bool true))|_=>none
def gB:List T->Option T:=BHX
def AF6:aP Tryz.prog 9 gB :=
 AOS aZ a7 400 BC6 (B:=AKI) AHA 40 (by kernel_rfl)
end Go.Pv
namespace Go.Pv
open Go Go.Proofs IntKind
def awD {K:Bool->Prop} (h:K true):aJ [(false,Sy.bool)] (gB []) K:=aG (s:=[(false,.bool)]) (y:=true) rfl h
def Q6 {o:dJ} {n:Int} (h:r4 o n=true):(o.2.length:Int)<=n:=by
 unfold r4 at h;rw[ac,ac,ah,ah] at h;exact h.2.1
structure YT (d:aB) (o:dJ):Prop where
 D:JH d=true
 K:HJ d=true
 E:∀ x∈o.2,fM (cV x)=true/\eU (hU x)=true
def A9W {d:aB} {o:dJ} (h:JI d o=true):YT d o:=by
 unfold JI at h;simp only[ac,List.all_eq_true] at h;exact ⟨h.1.1,h.1.2,h.2⟩
def BBM {d:aB} (h:ZP d 40=true):JR 40 d:=AXN h
variable {m:aI}
def AJO {d:aB} {o:dJ} {b:Nat} (c:YT d o) (hf:JR b d) (hb:b<=900):sW [aH true aD d,aH true aK m,aH true dB o]=some (Sh.enc [(true,aD),(false,.int .i64)] (mS d m o)):=ANV (BEV hf hb c.D c.K c.E)
def AWD {d:aB} {o:dJ} {b:Nat} (c:YT d o) (hf:JR b d) (h:(mS d m o).2=0):JR (b+o.2.length) (mS d m o).1/\JH (mS d m o).1=true/\HJ (mS d m o).1=true:=by
 obtain ⟨_,e⟩:=DV h;rw[e] at h ⊢;exact MF hf c.D c.K c.E h
end Go.Pv
namespace Go.Pv
open Go Go.Proofs IntKind
section
variable {α : Type} {af : α -> α -> Bool} {p q : α -> Bool} {f g : α -> α} {l : List α} {x y z : α}
def AW6 (h:p z=true):fY p (z::l)=l:=by
 unfold fY;rw[List.findIdx_cons,h];rfl
def AW5 (h:p z=false):fY p (z::l)=z::fY p l:=by
 unfold fY;rw[List.findIdx_cons,h];rfl
def A9P (h:p z=true):MK p f (z::l)=f z::l:=by
 unfold MK;rw[List.findIdx_cons,h];rfl
def A9O (h:p z=false):MK p f (z::l)=z::MK p f l:=by
 unfold MK;rw[List.findIdx_cons,h];rfl
structure Ord (af:α->α->Bool):Prop where
 trans:∀ {a b c},af c b=true->af b a=true->af c a=true
 irr:∀ a,af a a=false
end
variable {α:Type}
def A1D:Ord (α:=iII×α) dW:=⟨λh1 h2=>WO h2 h1,λa=>qG a.1⟩
end Go.Pv
namespace Go.Pv
open Go Go.Proofs IntKind
def opN (x:aV) (l:List bN):List bN:=if x.1=1 then j3 dW l (pC x) else if x.1=2 then fY (cP (fE x)) l else l
def opP (x:aV) (l:List a8):List a8:=if x.1=3 then j3 dW l (cV x) else if x.1=4 then fY (cP (fE x)) l else if x.1=5 then MK (cP (cV x).1) (AH4 (cV x)) l else if x.1=6 then MK (cP (fE x)) (λp=>AHJ p (eTo x)) l else l
def opS (x:aV) (l:List bS):List bS:=if x.1=7 then j3 dW l (pD x) else if x.1=8 then fY (cP (fE x)) l else l
def opK (x:aV) (l:List aQ):List aQ:=if x.1=9 then j3 dW l (hU x) else if x.1=10 then fY (cP (fE x)) l else l
def opR (x:aV) (l:List bE):List bE:=if x.1=11 then j3 CM l (fO x) else if x.1=12 then fY (λn=>decide (n=fO x)) l else l
def GK {d:aB} {x:aV} (h:1<=x.1/\x.1<=12):lE d x=(d.1,opN x d.2.1,opP x d.2.2.1,opS x d.2.2.2.1,opK x d.2.2.2.2.1,opR x d.2.2.2.2.2):=by
 have:x.1=1\/x.1=2\/x.1=3\/x.1=4\/x.1=5\/x.1=6\/x.1=7\/x.1=8\/x.1=9\/x.1=10\/x.1=11\/x.1=12:=by omega
 rcases this with h|h|h|h|h|h|h|h|h|h|h|h<;>simp[lE,opN,opP,opS,opK,opR,h]
variable {m:aI}
def mC {d:aB} (hc:gQ d m=0):iK d=true:=by
 have hf:oL d=0:=by
  unfold gQ at hc;split at hc
  ·exact absurd hc ‹_›
  split at hc
  ·cases hc
  split at hc
  ·exact absurd hc ‹_›
  rename_i h3;exact Classical.byContradiction h3
 unfold oL at hf;split at hf
 ·cases hf
 split at hf
 ·cases hf
 rename_i h2;simpa using h2
variable {α:Type}
def GC {l:List (iII×α)} (h:pB (ids l)=true):l.Pairwise (λa b=>dW b a=true):=by
 have:=MJ h;unfold ids at this;rw[List.pairwise_map] at this;exact this.imp λh=>(nH ..).2 h
def AOE {l:List (iII×α)} {id:iII} (h:(l.find? λs=>decide (s.1=id)).isSome=true):∃ a∈l,a.1=id:=by
 obtain ⟨a,ha,he⟩:=List.find?_isSome.1 h;exact ⟨a,ha,of_decide_eq_true he⟩
section
variable {α : Type} {l : List (iII × α)}
end
structure BJP (d:aB) (m:aI) (x y:aV):Prop where
 a:wW d m x
 b:wW d m y
 c:wW (lE d x) m y
 e:wW (lE d y) m x
section
variable {d : aB} {m : aI} {x y : aV}
def OP (h:wW d m x):iK (lE d x)=true:=mC h.chk
def A5L {l:List bE} {n:bE} (h:(l.any λk=>decide (k=n))=true):n∈l:=by
 obtain ⟨a,ha,e⟩:=List.any_eq_true.1 h;rw[<-of_decide_eq_true e];exact ha
def tId (x:aV):iII:=if x.1=5 then (cV x).1 else fE x
def tF (x:aV) (p:a8):a8:=if x.1=5 then AH4 (cV x) p else AHJ p (eTo x)
def turns (x:aV):Prop:=x.1=5\/x.1=6
def A1C (h:turns x) (l:List a8):opP x l=MK (cP (tId x)) (tF x) l:=by
 rcases h with h|h
 ·have e:tF x=AH4 (cV x):=by funext p;unfold tF;rw[if_pos h]
  unfold opP tId;rw[e,if_neg (by omega),if_neg (by omega),if_pos h,if_pos h]
 ·have e:tF x=λp=>AHJ p (eTo x):=by funext p;unfold tF;rw[if_neg (by omega)]
  unfold opP tId;rw[e,if_neg (by omega),if_neg (by omega),if_neg (by omega),if_pos h,if_neg (by omega)]
def A96 {a:a8} (ha:cP (tId x) a=true):(tF x a).1=a.1:=by
 have ha:a.1=tId x:=of_decide_eq_true ha;unfold tF;unfold tId at ha;split
 ·rename_i h;rw[if_pos h] at ha;exact ha.symm
 ·rfl
def BHH (hd:wW d m x):(lE d x).2.2.1=opP x d.2.2.1:=by rw[GK hd.kind]
def A8N (hc:gQ d m=0) {p:a8} (hp:p∈d.2.2.1):pU p.1=true:=by
 have h1:kC d m=0:=by
  unfold gQ at hc;split at hc
  ·exact absurd hc ‹_›
  split at hc
  ·cases hc
  split at hc
  ·exact absurd hc ‹_›
  split at hc
  ·exact absurd hc ‹_›
  split at hc
  ·exact absurd hc ‹_›
  rename_i h;exact Classical.byContradiction h
 have h2:cG (iQ d m) d.2.2.1=0:=by
  unfold kC at h1;split at h1
  ·assumption
  ·exact h1
 have h3:=jZ h2 p hp;have h4:pJ p m=0:=by
  unfold iQ at h3;split at h3
  ·assumption
  ·exact h3
 unfold pJ at h4;split at h4
 ·cases h4
 rename_i h;rw[not_or] at h;simpa using h.1
end
end Go.Pv
namespace Go.Pv
open Go Go.Proofs IntKind
def A0R {l:List iII} {s:iII} (h:s∈l) (hn:s≠⟨#[]⟩):s∈nE l:=by
 have h1:toL s∈(nE l).map toL:=(AQD l (toL s)).2 ⟨List.mem_map.2 ⟨s,h,rfl⟩,λe=>hn (by rw[<-pV s,e];rfl)⟩;obtain ⟨t,ht,e⟩:=List.mem_map.1 h1;rw[<-pV s,<-e,pV];exact ht
def ARY {x:aV} (h:turns x):tId x∈cE x:=by
 rcases h with h|h
 ·unfold tId cE;rw[if_pos h,if_neg (by omega),if_neg (by omega),if_pos (by omega)];exact am
 ·have e1:tId x=fE x:=by unfold tId;rw[if_neg (by omega)]
  have e2:cE x=[x.2.1,x.2.2.1]:=by
   unfold cE;rw[if_neg (by omega),if_neg (by omega),if_neg (by omega),if_pos h]
  rw[e1,e2];exact am
end Go.Pv
namespace Go.Pv
open Go Go.Proofs IntKind
section
variable {α : Type} {l : List (iII × α)} {id j : iII}
def AOD {a:iII×α} (h:a.1≠id):(j3 dW l a).find? (λs=>decide (s.1=id))=l.find? λs=>decide (s.1=id):=by
 unfold j3;rw[List.find?_append,List.find?_cons_of_neg (by simpa using h),<-List.find?_append,List.take_append_drop]
def Q7 (h:j≠id):∀ l:List (iII×α),(fY (cP j) l).find? (λs=>decide (s.1=id))=l.find? λs=>decide (s.1=id)
 | []=>rfl
 | z::l=>by
  cases hz:cP j z with
  | true =>
   have e:z.1=j:=of_decide_eq_true hz;rw[AW6 hz,List.find?_cons_of_neg (by rw[e];simpa using h)]
  | false =>
   rw[AW5 hz,List.find?_cons,List.find?_cons,Q7 h l]
def ZR {f:iII×α->iII×α} (hf:∀ a,cP j a=true->(f a).1=a.1) (h:j≠id):∀ l:List (iII×α),(MK (cP j) f l).find? (λs=>decide (s.1=id))=l.find? λs=>decide (s.1=id)
 | []=>rfl
 | z::l=>by
  cases hz:cP j z with
  | true =>
   have e:z.1=j:=of_decide_eq_true hz;rw[A9P hz,List.find?_cons_of_neg (by rw[hf z hz,e];simpa using h),List.find?_cons_of_neg (by rw[e];simpa using h)]
  | false =>
   rw[A9O hz,List.find?_cons,List.find?_cons,ZR hf h l]
end
section
variable {d : aB} {m : aI} {x : aV} {id : iII}
def A7M (h:x.1=3):(cV x).1∈cE x:=by
 unfold cE;rw[if_neg (by omega),if_neg (by omega),if_pos (.inl h)];exact am
end
variable {m : aI} {id : iII}
def A0T {l:List aV} (h:id∉DN l) (hn:id≠⟨#[]⟩):∀ x∈l,id∉cE x:=λx hx hc=>h (PY.2 ⟨x,hx,A0R hc hn⟩)
end Go.Pv
namespace Go.Pv
open Go Go.Proofs IntKind
structure Val (d:aB) (m:aI):Prop where
 order:iK d=true
 nodes:∀ n∈d.2.1,pG d n=0
 up:A0P d=false
 parts:∀ p∈d.2.2.1,iQ d m p=0
 BIQ:∀ s∈d.2.2.2.1,rE d s=0
 BIJ:(kO d d.2.2.2.2.1 0 [] []).1=0
 BIE:∀ n∈d.2.2.2.2.2,uL d n=0
variable {m:aI}
def A29 {d:aB} (hc:gQ d m=0):Val d m:=by
 have ho:=mC hc;unfold gQ at hc;split at hc
 ·exact absurd hc ‹_›
 split at hc
 ·cases hc
 split at hc
 ·exact absurd hc ‹_›
 split at hc
 ·exact absurd hc ‹_›
 rename_i h4;split at hc
 ·exact absurd hc ‹_›
 rename_i h5;split at hc
 ·exact absurd hc ‹_›
 rename_i h6;split at hc
 ·exact absurd hc ‹_›
 rename_i h7;have h4:j4 d=0:=Classical.byContradiction h4;have h5:kC d m=0:=Classical.byContradiction h5;have h6:cG (rE d) d.2.2.2.1=0:=Classical.byContradiction h6;have h7:iP d=0:=Classical.byContradiction h7;have n1:cG (pG d) d.2.1=0/\A0P d=false:=by
  unfold j4 at h4;split at h4
  ·rename_i g;refine ⟨g,?_⟩;split at h4
   ·cases h4
   ·rename_i g2;simpa using g2
  ·rename_i g;exact absurd h4 g
 have p1:cG (iQ d m) d.2.2.1=0:=by
  unfold kC at h5;split at h5
  ·assumption
  ·exact h5
 have k1:(kO d d.2.2.2.2.1 0 [] []).1=0:=by
  unfold iP at h7;split at h7
  ·assumption
  ·exact h7
 exact ⟨ho,jZ n1.1,n1.2,jZ p1,jZ h6,k1,jZ hc⟩
def A7S {d:aB} {n:bN} (h:pG d n=0):pU n.1=true/\((n.2.1=1/\n.2.2=⟨#[]⟩)\/(¬ n.2.1=1/\(eG d n.2.2).isSome=true)):=by
 unfold pG at h;split at h
 ·cases h
 rename_i h1;split at h
 ·cases h
 rename_i h2;split at h
 ·cases h
 rename_i h3;split at h
 ·cases h
 rename_i h4;refine ⟨by simpa using h1,?_⟩;by_cases hk:n.2.1=1
 ·exact .inl ⟨hk,Classical.byContradiction λg=>h3 ⟨hk,g⟩⟩
 ·have hk2:n.2.1=2:=Classical.byContradiction λg=>h2 ⟨hk,g⟩;refine .inr ⟨hk,?_⟩;cases hn:eG d n.2.2 with
  | none=>exact absurd ⟨hk2,by rw[hn];rfl⟩ h4
  | some _=>rfl
def AWM {d:aB} {id:iII} (h:pF d id=true):(eG d id).isSome=true:=by
 unfold pF at h;cases hn:eG d id with
 | none=>rw[hn] at h;cases h
 | some _=>rfl
def AQC {d:aB} {n:bE} (h:uL d n=0):pF d n.2.1=true/\(n.1=3->(iO d n.2.2).isSome=true)/\(¬ n.1=3->n.2.2=⟨#[]⟩\/pF d n.2.2=true):=by
 unfold uL at h;split at h
 ·cases h
 rename_i h1;split at h
 ·cases h
 split at h
 ·cases h
 rename_i h3;split at h
 ·cases h
 rename_i h4;rw[not_or,not_or] at h4;refine ⟨by simpa using h3,λhk=>?_,λhk=>?_⟩
 ·cases hn:iO d n.2.2 with
  | none=>exact absurd ⟨hk,by rw[hn];rfl⟩ h4.2.2
  | some _=>rfl
 ·cases hb:pF d n.2.2 with
  | true=>exact .inr rfl
  | false =>
   have:n.1=1\/n.1=2:=by omega
   rcases this with g|g
   ·exact .inl (Classical.byContradiction λe=>h4.1 ⟨g,e,hb⟩)
   ·exact absurd ⟨g,hb⟩ h4.2.1
section
variable {d : aB} {m : aI} {x : aV}
def AKD {s:iII} (h:pU s=true):s≠⟨#[]⟩:=λe=>by rw[e] at h;exact absurd h (by decide)
variable {α:Type}
def DB {l:List (iII×α)} (ho:pB (ids l)=true) {a:iII×α} (ha:a∈l):l.find? (λs=>decide (s.1=a.1))=some a:=by
 have hpw:=GC ho;cases hf:l.find? λs=>decide (s.1=a.1) with
 | none=>exact absurd (ai rfl) (List.find?_eq_none.1 hf a ha)
 | some b =>
  have hb:=List.mem_of_find?_eq_some hf;have he:b.1=a.1:=by simpa using List.find?_some hf
  refine congrArg some ?_;obtain ⟨i,hi,rfl⟩:=List.mem_iff_getElem.1 ha;obtain ⟨j,hj,rfl⟩:=List.mem_iff_getElem.1 hb;have hs:∀ p q (hp:p<l.length) (hq:q<l.length),p<q->l[p].1≠l[q].1:=λp q hp hq hpq e=>by
   have h1:=List.pairwise_iff_getElem.1 hpw p q hp hq hpq;unfold dW gtS at h1;rw[e,qG] at h1;cases h1
  rcases Nat.lt_trichotomy i j with g|g|g
  ·exact absurd he.symm (hs i j hi hj g)
  ·subst g;rfl
  ·exact absurd he (hs j i hj hi g)
end
end Go.Pv
namespace Go.Pv
open Go Go.Proofs IntKind
section
variable {α : Type}
def A1L {R:α->α->Prop} (irr:∀ a,¬ R a a) (tr:∀ {a b c},R a b->R b c->R a c):∀ {l k:List α},l.Pairwise R->k.Pairwise R->(∀ a,a∈l↔a∈k)->l=k
 | [],[],_,_,_=>rfl
 | [],b::k,_,_,h=>absurd ((h b).2 am) (by simp)
 | a::l,[],_,_,h=>absurd ((h a).1 am) (by simp)
 | a::l,b::k,hl,hk,h=>by
  obtain ⟨h1,h2⟩:=List.pairwise_cons.1 hl;obtain ⟨g1,g2⟩:=List.pairwise_cons.1 hk;have e:a=b:=by
   rcases List.mem_cons.1 ((h a).1 am) with e|e
   ·exact e
   rcases List.mem_cons.1 ((h b).2 am) with e'|e'
   ·exact e'.symm
   ·exact absurd (tr (h1 b e') (g1 a e)) (irr a)
  subst e;refine congrArg (a :: ·) (A1L irr tr h2 g2 λx=>⟨λhx=>?_,λhx=>?_⟩)
  ·rcases List.mem_cons.1 ((h x).1 (List.mem_cons_of_mem _ hx)) with e|e
   ·subst e;exact absurd (h1 x hx) (irr x)
   ·exact e
  ·rcases List.mem_cons.1 ((h x).2 (List.mem_cons_of_mem _ hx)) with e|e
   ·subst e;exact absurd (g1 x hx) (irr x)
   ·exact e
def UM {l k:List (iII×α)} (hl:pB (ids l)=true) (hk:pB (ids k)=true) (h:∀ i,i∈ids l\/i∈ids k->l.find? (λs=>decide (s.1=i))=k.find? λs=>decide (s.1=i)):l=k :=
 A1L (R:=λa b=>dW b a=true) (λa h=>by rw[A1D.irr] at h;cases h) (λh1 h2=>A1D.trans h2 h1) (GC hl) (GC hk) λa=>⟨λha=>by
  have e:=DB hl ha;rw[h a.1 (.inl (List.mem_map.2 ⟨a,ha,rfl⟩))] at e;exact List.mem_of_find?_eq_some e,λha=>by
  have e:=DB hk ha;rw[<-h a.1 (.inr (List.mem_map.2 ⟨a,ha,rfl⟩))] at e;exact List.mem_of_find?_eq_some e⟩
variable {β:Type}
def A7T {o:Option β} (h:o.isSome=false):o=none:=by
 cases o with
 | none=>rfl
 | some _=>cases h
def AJ1 {j:iII} {f:iII×α->iII×α} (hf:∀ a,cP j a=true->(f a).1=a.1):∀ l:List (iII×α),(MK (cP j) f l).find? (λs=>decide (s.1=j))=(l.find? λs=>decide (s.1=j)).map f
 | []=>rfl
 | z::l=>by
  cases hz:cP j z with
  | true =>
   have e:z.1=j:=of_decide_eq_true hz;rw[A9P hz,List.find?_cons_of_pos (p:=λs:iII×α=>decide (s.1=j)) (by rw[hf z hz,e];exact ai rfl),List.find?_cons_of_pos (p:=λs:iII×α=>decide (s.1=j)) (ai e)];rfl
  | false =>
   have e:¬ z.1=j:=of_decide_eq_false hz;rw[A9O hz,List.find?_cons_of_neg (by simpa using e),List.find?_cons_of_neg (by simpa using e),AJ1 hf l]
def ABS {β:Type} {p:β->Bool} {b:β} (h:p b=false):∀ l:List β,b∈fY p l↔b∈l
 | []=>Iff.rfl
 | z::l=>by
  cases hz:p z with
  | true =>
   rw[AW6 hz,List.mem_cons];exact ⟨.inr,λg=>g.resolve_left λe=>by rw[e,hz] at h;cases h⟩
  | false=>rw[AW5 hz,List.mem_cons,List.mem_cons,ABS h l]
def lv (ki kd:Int) (x:aV) (a:iII×α) (i:iII) (o:Option (iII×α)):Option (iII×α):=if x.1=ki/\a.1=i then some a else if x.1=kd/\fE x=i then none else o
def BH0 {l:List (iII×α)} {a:iII×α} (h:pB (ids (j3 dW l a))=true):(j3 dW l a).find? (λs=>decide (s.1=a.1))=some a:=DB h (EN.2 (.inl rfl))
variable {ki kd:Int}
def AKP {x:aV} {a:iII×α} {i:iII} (h1:x.1=ki->a.1∈cE x) (h2:x.1=kd->fE x∈cE x) (hn:i∉cE x) (o:Option (iII×α)):lv ki kd x a i o=o:=by
 unfold lv;rw[if_neg (λh:x.1=ki/\a.1=i=>hn (h.2 ▸ h1 h.1)),if_neg (λh:x.1=kd/\fE x=i=>hn (h.2 ▸ h2 h.1))]
def VO {x:aV} (hne:ki≠kd) {l op:List (iII×α)} {a:iII×α} {i:iII} (ho:pB (ids l)=true) (ho2:pB (ids op)=true) (he:op=if x.1=ki then j3 dW l a else if x.1=kd then fY (cP (fE x)) l else l):op.find? (λs=>decide (s.1=i))=lv ki kd x a i (l.find? λs=>decide (s.1=i)):=by
 unfold lv;by_cases h1:x.1=ki
 ·rw[if_pos h1] at he;subst he;by_cases e:a.1=i
  ·rw[if_pos ⟨h1,e⟩,<-e];exact BH0 ho2
  ·rw[if_neg (λh=>e h.2),if_neg (λh=>hne (h1.symm.trans h.1))];exact AOD e
 rw[if_neg h1] at he;rw[if_neg (λh=>h1 h.1)];by_cases h2:x.1=kd
 ·rw[if_pos h2] at he;subst he;by_cases e:fE x=i
  ·rw[if_pos ⟨h2,e⟩,<-e];exact A7T (AXO (QX ho))
  ·rw[if_neg (λh=>e h.2)];exact Q7 e _
 rw[if_neg h2] at he;rw[if_neg (λh=>h2 h.1),he]
end
section
variable {d : aB} {m : aI} {x : aV} {i : iII}
def nF (h:iK d=true):pB (ids d.2.1)=true/\pB (ids d.2.2.1)=true/\pB (ids d.2.2.2.1)=true/\pB (ids d.2.2.2.2.1)=true/\MI d.2.2.2.2.2=true:=by
 simp only[iK,ac] at h;exact ⟨h.1.1.1.1,h.1.1.1.2,h.1.1.2,h.1.2,h.2⟩
def A0Q (ho:iK d=true) (hd:wW d m x):eG (lE d x) i=lv 1 2 x (pC x) i (eG d i):=by
 unfold eG;exact VO (by decide) (nF ho).1 (nF (OP hd)).1 (by rw[GK hd.kind];rfl)
def A2Y (ho:iK d=true) (hd:wW d m x):o9 (lE d x) i=lv 7 8 x (pD x) i (o9 d i):=by
 unfold o9;exact VO (by decide) (nF ho).2.2.1 (nF (OP hd)).2.2.1 (by rw[GK hd.kind];rfl)
def A1E (ho:iK d=true) (hd:wW d m x):iO (lE d x) i=lv 9 10 x (hU x) i (iO d i):=by
 unfold iO;exact VO (by decide) (nF ho).2.2.2.1 (nF (OP hd)).2.2.2.1 (by rw[GK hd.kind];rfl)
def pv (x:aV) (i:iII) (o:Option a8):Option a8:=if (x.1=5\/x.1=6)/\tId x=i then o.map (tF x) else lv 3 4 x (cV x) i o
def A1I (ho:iK d=true) (hd:wW d m x):partOf (lE d x) i=pv x i (partOf d i):=by
 unfold partOf pv;by_cases ht:turns x
 ·rw[BHH hd,A1C ht];by_cases e:tId x=i
  ·rw[if_pos ⟨ht,e⟩,<-e];exact AJ1 (λa ha=>A96 ha) _
  ·rw[if_neg (λh=>e h.2),ZR (λa ha=>A96 ha) e];unfold lv;unfold turns at ht;rw[if_neg (λh=>by omega),if_neg (λh=>by omega)]
 ·rw[if_neg (λh=>ht h.1)];unfold turns at ht;refine VO (by decide) (nF ho).2.1 (nF (OP hd)).2.1 ?_;rw[BHH hd];unfold opP;rw[if_neg (c:=x.1=5) (λh=>ht (.inl h)),if_neg (c:=x.1=6) (λh=>ht (.inr h))]
def SL (d:aB) (n:bE):Bool:=d.2.2.2.2.2.any λk=>decide (k=n)
def mI {n:bE}:SL d n=true↔n∈d.2.2.2.2.2:=⟨A5L,λh=>List.any_eq_true.2 ⟨n,h,ai rfl⟩⟩
def ndv (x:aV) (n:bE) (o:Bool):Bool:=if x.1=11/\fO x=n then true else if x.1=12/\fO x=n then false else o
def A0J {n:bE} (ho:iK d=true) (hd:wW d m x):SL (lE d x) n=ndv x n (SL d n):=by
 rw[Bool.eq_iff_iff,mI,GK hd.kind];show n∈opR x d.2.2.2.2.2↔_;unfold opR ndv;by_cases h1:x.1=11
 ·rw[if_pos h1,EN];by_cases e:fO x=n
  ·rw[if_pos ⟨h1,e⟩];exact ⟨λ_=>rfl,λ_=>.inl e.symm⟩
  ·rw[if_neg (c:=x.1=11/\fO x=n) (λh=>e h.2),if_neg (c:=x.1=12/\fO x=n) (λh=>by omega),mI];exact ⟨λh=>h.resolve_left λg=>e g.symm,.inr⟩
 rw[if_neg h1,if_neg (c:=x.1=11/\fO x=n) (λh=>h1 h.1)];by_cases h2:x.1=12
 ·rw[if_pos h2];by_cases e:fO x=n
  ·rw[if_pos ⟨h2,e⟩];refine ⟨λh=>?_,λh=>by cases h⟩;have h3:=Q2 (f:=id) (is:=λk=>decide (k=fO x)) (by rw[List.map_id];exact AFK (nF ho).2.2.2.2) (λa b ha hb=>(of_decide_eq_true ha).trans (of_decide_eq_true hb).symm) n h;exact absurd e.symm (of_decide_eq_false h3)
  ·rw[if_neg (c:=x.1=12/\fO x=n) (λh=>e h.2),mI];exact ABS (p:=λk=>decide (k=fO x)) (aj λg:n=fO x=>e g.symm) _
 ·rw[if_neg h2,if_neg (c:=x.1=12/\fO x=n) (λh=>h2 h.1),mI]
def AZN (hd:wW d m x):(lE d x).1=d.1:=by rw[GK hd.kind]
def A7L (h:x.1=1):(pC x).1∈cE x:=by
 unfold cE;rw[if_pos h];exact am
def KB (h:x.1=2\/x.1=4\/x.1=8\/x.1=10):fE x∈cE x:=by
 unfold cE;rw[if_neg (by omega),if_pos h];exact am
def A7N (h:x.1=7):(pD x).1∈cE x:=by
 unfold cE;rw[if_neg (by omega),if_neg (by omega),if_neg (by omega),if_neg (by omega),if_pos h];exact am
def A7O (h:x.1=9):(hU x).1∈cE x:=by
 unfold cE;rw[if_neg (by omega),if_neg (by omega),if_neg (by omega),if_neg (by omega),if_neg (by omega),if_pos h];exact am
def AKW (h:x.1=11\/x.1=12):(fO x).2.1∈cE x:=by
 unfold cE;rw[if_neg (by omega),if_neg (by omega),if_neg (by omega),if_neg (by omega),if_neg (by omega),if_neg (by omega),if_pos h];exact am
def BIK (hn:i∉cE x) (o:Option a8):pv x i o=o:=by
 unfold pv;rw[if_neg (λh:(x.1=5\/x.1=6)/\tId x=i=>hn (h.2 ▸ ARY h.1))];exact AKP A7M (λh=>KB (.inr (.inl h))) hn o
def BDN {n:bE} (hn:n.2.1∉cE x) (o:Bool):ndv x n o=o:=by
 unfold ndv;rw[if_neg (λh:x.1=11/\fO x=n=>hn (h.2 ▸ AKW (.inl h.1))),if_neg (λh:x.1=12/\fO x=n=>hn (h.2 ▸ AKW (.inr h.1)))]
end
section
variable {m : aI} {a b : List aV} {d : aB}
def FB {β:Type} {view:aB->β} {f:aV->β->β} (hf:∀ d x,iK d=true->wW d m x->view (lE d x)=f x (view d)):∀ {l:List aV} {d:aB},iK d=true->(bV m d l).2=0->view (bV m d l).1=l.foldl (λo x=>f x o) (view d)
 | [],d,_,_=>rfl
 | x::l,d,ho,h=>by
  obtain ⟨hd,e⟩:=IV h;rw[e] at h ⊢;rw[FB hf (OP hd) h,hf d x ho hd];rfl
def D7 {β:Type} {f:aV->β->β}:∀ {l:List aV} {o:β},(∀ x∈l,∀ o,f x o=o)->l.foldl (λo x=>f x o) o=o
 | [],o,_=>rfl
 | x::l,o,h=>by
  rw[List.foldl_cons,h x am];exact D7 λy hy=>h y (List.mem_cons_of_mem _ hy)
structure A3H (m:aI) (d:aB) (a b:List aV):Prop where
 chk:gQ d m=0
 a1:(bV m d a).2=0
 b1:(bV m d b).2=0
 a2:(bV m (bV m d a).1 b).2=0
 b2:(bV m (bV m d b).1 a).2=0
 apart:∀ s,s∈DN a->s∉DN b
variable {β:Type}
def ACY (h:A3H m d a b) {view:aB->β} {f:aV->β->β} (hf:∀ d x,iK d=true->wW d m x->view (lE d x)=f x (view d)) (hi:(∀ x∈a,∀ o,f x o=o)\/(∀ x∈b,∀ o,f x o=o)):view (bV m (bV m d a).1 b).1=view (bV m (bV m d b).1 a).1:=by
 have oa:=mC (lY h.chk h.a1);have ob:=mC (lY h.chk h.b1);rw[FB hf oa h.a2,FB hf ob h.b2,FB hf (mC h.chk) h.a1,FB hf (mC h.chk) h.b1];rcases hi with hi|hi
 ·rw[D7 hi,D7 hi]
 ·rw[D7 hi,D7 hi]
def A1A (h:A3H m d a b) {i:iII} (hi:i≠⟨#[]⟩):(∀ x∈a,i∉cE x)\/(∀ x∈b,i∉cE x):=by
 by_cases g:i∈DN a
 ·exact .inr (A0T (h.apart i g) hi)
 ·exact .inl (A0T g hi)
def PL (h:A3H m d a b) {view:aB->β} {f:aV->β->β} (hf:∀ d x,iK d=true->wW d m x->view (lE d x)=f x (view d)) {i:iII} (hi:i≠⟨#[]⟩) (hn:∀ x,i∉cE x->∀ o,f x o=o):view (bV m (bV m d a).1 b).1=view (bV m (bV m d b).1 a).1 :=
 ACY h hf ((A1A h hi).imp (λg x hx=>hn x (g x hx)) λg x hx=>hn x (g x hx))
def A2A:∀ {l:List aQ} {i:Int} {E:List aR} {S:List iII},(kO d l i E S).1=0->∀ k∈l,pU k.1=true
 | [],_,_,_,_,k,hk=>by cases hk
 | c::l,i,E,S,h,k,hk=>by
  unfold kO at h;split at h
  ·rename_i g;exact absurd h g
  rename_i g1;split at h
  ·rename_i g;exact absurd h g
  split at h
  ·rename_i g;exact absurd h g
  rcases List.mem_cons.1 hk with rfl|hk
  ·have g1:uH d k=0:=Classical.byContradiction g1;unfold uH at g1;split at g1
   ·cases g1
   ·rename_i g;simpa using g
  ·exact A2A h k hk
def A8T {s:bS} (h:rE d s=0):pU s.1=true:=by
 unfold rE at h;split at h
 ·cases h
 ·rename_i g;rw[not_or] at g;simpa using g.1
def vL (hc:gQ d m=0) {i:iII} (h:i∈ids d.2.1\/i∈ids d.2.2.1\/i∈ids d.2.2.2.1\/i∈ids d.2.2.2.2.1):i≠⟨#[]⟩:=by
 have V:=A29 hc;rcases h with h|h|h|h
 ·obtain ⟨n,hn,rfl⟩:=List.mem_map.1 h;exact AKD (A7S (V.nodes n hn)).1
 ·obtain ⟨n,hn,rfl⟩:=List.mem_map.1 h;exact AKD (A8N hc hn)
 ·obtain ⟨n,hn,rfl⟩:=List.mem_map.1 h;exact AKD (A8T (V.BIQ n hn))
 ·obtain ⟨n,hn,rfl⟩:=List.mem_map.1 h;exact AKD (A2A V.BIJ n hn)
def ACH (h:A3H m d a b):(bV m (bV m d a).1 b).1=(bV m (bV m d b).1 a).1:=by
 have c1:=lY (lY h.chk h.a1) h.a2;have c2:=lY (lY h.chk h.b1) h.b2;have o1:=nF (mC c1);have o2:=nF (mC c2);have e0:(bV m (bV m d a).1 b).1.1=(bV m (bV m d b).1 a).1.1:=ACY h (view:=λd=>d.1) (f:=λ_ o=>o) (λd x _ hd=>AZN hd) (.inl λ_ _ _=>rfl);have e1:(bV m (bV m d a).1 b).1.2.1=(bV m (bV m d b).1 a).1.2.1:=UM o1.1 o2.1 λi hi=>PL h (view:=λd=>eG d i) (f:=λx o=>lv 1 2 x (pC x) i o) (λd x ho hd=>A0Q ho hd) (hi.elim (λg=>vL c1 (.inl g)) λg=>vL c2 (.inl g)) λx hn o=>AKP A7L (λh=>KB (.inl h)) hn o;have e2:(bV m (bV m d a).1 b).1.2.2.1=(bV m (bV m d b).1 a).1.2.2.1:=UM o1.2.1 o2.2.1 λi hi=>PL h (view:=λd=>partOf d i) (f:=λx o=>pv x i o) (λd x ho hd=>A1I ho hd) (hi.elim (λg=>vL c1 (.inr (.inl g))) λg=>vL c2 (.inr (.inl g))) λx hn o=>BIK hn o;have e3:(bV m (bV m d a).1 b).1.2.2.2.1=(bV m (bV m d b).1 a).1.2.2.2.1:=UM o1.2.2.1 o2.2.2.1 λi hi=>PL h (view:=λd=>o9 d i) (f:=λx o=>lv 7 8 x (pD x) i o) (λd x ho hd=>A2Y ho hd) (hi.elim (λg=>vL c1 (.inr (.inr (.inl g)))) λg=>vL c2 (.inr (.inr (.inl g)))) λx hn o=>AKP A7N (λh=>KB (.inr (.inr (.inl h)))) hn o;have e4:(bV m (bV m d a).1 b).1.2.2.2.2.1=(bV m (bV m d b).1 a).1.2.2.2.2.1:=UM o1.2.2.2.1 o2.2.2.2.1 λi hi=>PL h (view:=λd=>iO d i) (f:=λx o=>lv 9 10 x (hU x) i o) (λd x ho hd=>A1E ho hd) (hi.elim (λg=>vL c1 (.inr (.inr (.inr g)))) λg=>vL c2 (.inr (.inr (.inr g)))) λx hn o=>AKP A7O (λh=>KB (.inr (.inr (.inr h)))) hn o;have e5:(bV m (bV m d a).1 b).1.2.2.2.2.2=(bV m (bV m d b).1 a).1.2.2.2.2.2:=by
  have key:∀ n:bE,n.2.1≠⟨#[]⟩->SL (bV m (bV m d a).1 b).1 n=SL (bV m (bV m d b).1 a).1 n:=λn hn=>PL h (view:=λd=>SL d n) (f:=λx o=>ndv x n o) (λd x ho hd=>A0J ho hd) hn λx g o=>BDN g o;have ne:∀ {e:aB} {n:bE},gQ e m=0->n∈e.2.2.2.2.2->n.2.1≠⟨#[]⟩:=λ{e n} hc hn=>by
   obtain ⟨q,hq,eq⟩:=AOE (AWM (AQC ((A29 hc).BIE n hn)).1);rw[<-eq];exact vL hc (.inl (List.mem_map.2 ⟨q,hq,rfl⟩))
  refine A1L (R:=λa b=>ltN a b=true) (λa h=>by rw[AKO] at h;cases h) (λh1 h2=>SP h1 h2) (zT o1.2.2.2.2) (zT o2.2.2.2.2) λn=>⟨λhn=>?_,λhn=>?_⟩
  ·have:=mI.2 hn;rw[key n (ne c1 hn)] at this;exact mI.1 this
  ·have:=mI.2 hn;rw[<-key n (ne c2 hn)] at this;exact mI.1 this
 exact Prod.ext e0 (Prod.ext e1 (Prod.ext e2 (Prod.ext e3 (Prod.ext e4 e5))))
end
end Go.Pv
namespace Go.Pv
open Go Go.Proofs IntKind
variable {M:Nat}{EXIT:Int×List (iII×Bool)×PUnit->Prop}
def A95 {l:List aV} (hM:M<=3000000) (hNm:∀ e∈l,(nE (cE e)).length<=M) (hok:∀ e∈l,ACC e=true) (hl:l.length<=100000)
  (hE:∀ i es,wG (λs=>∃ e∈l,s∈nE (cE e)) (l.length*M) es->EXIT (i,es,())):AC7 q7 l EXIT :=
 AIM (tf:=λe=>nE (cE e)) hM hNm (λe he=>(ABB ..).trans (by unfold uW;rw[hok e he];rfl)) hl hE
end Go.Pv
namespace Go.Pv
open Go Go.Proofs IntKind
def EJ:List (List T)->Option (List (List T)):=qZ
def AGY (l:List iII) (K:List (List T)->Prop):eE (List (List T)) (EJ (List.map Sy.str.enc l)) K=K (List.map Sy.str.enc (lD eC l)):=xZ l K
def AX0:cF Tryz.prog 71 (xK 1 EJ):=GR
noncomputable def BAF:Env:=Env.of [(70,.pure q7),(71,.perm 1 EJ)]
def BAV:FuncId->Hint:=λf=>match f == 46 with|true=>⟨AKN [(3,.alt [.val 12 false (.int .i64),.map 7 .str false .bool] [.val 12 false (.int .i64),.map 3 .str false .bool]),(6,.alt [.val 19 false (.int .i64),.map 7 .str false .bool] [.val 19 false (.int .i64),.map 3 .str false .bool])],λ_ _=>none,λ_=>none⟩|false=>match f == 47 with|true=>⟨λr=>match r == 3 with|true=>.inv [.own 5 1 .str,.nD 8 (some 7)]|false=>.none,λ_ _=>none,λr=>match r == 4 with|true=>some (.str,false,.bool)|false=>none⟩|false=>bA
def ATH:aU Tryz.prog BAF:=.cons AO3 (.cons AX0 (.nil _))
def AEQ(a0:dJ)(a1:dJ)(R:T->Prop):Prop:=cO Sy.str false Sy.bool [] λ(y0:List (iII×Bool))=>bD (Int×List (iII×Bool)×PUnit) (λX1 s2=>aC (decide (s2.1<(↑(BNB a1).length:Int))) (aX aM (BNB a1) s2.1 λ(y3:aV)=>aJ BMO (q7 [aH true aM y3]) λ(y4:List iII)=>BMZ s2 y4 X1) (cO Sy.str false Sy.bool [] λ(y12:List (iII×Bool))=>bD (Int×List (iII×Bool)×PUnit) (λX13 s14=>aC (decide (s14.1<(↑(BNB a0).length:Int))) (aX aM (BNB a0) s14.1 λ(y15:aV)=>aJ BMO (q7 [aH true aM y15]) λ(y16:List iII)=>BMY s14 y16 X13) (bD (List iII×(Nat×List Nat×Nat)×PUnit) (λX24 s25=>bQ (decide ((List.map (bY Sy.str false Sy.bool) s14.2.1).length <= s25.2.1.1) && decide (s25.2.1.1<=s25.2.1.2.2)) (rY (List.map (bY Sy.str false Sy.bool) s14.2.1).length s25.2.1.2.1 (eE (List (List T)) (EJ (List.map Sy.str.enc s25.1)) λ(y26:List (List T))=>R (T.sl false y26)) λ(i27:Nat)=>BMX s14 s25 i27 s2 X24)) ([], ((List.map (bY Sy.str false Sy.bool) s14.2.1).length,[], (List.map (bY Sy.str false Sy.bool) s14.2.1).length), ()))) (0,y12,()))) (0,y0,())
abbrev AH9:Sh:=[(true,dB),(true,dB)]
def FF (x:dJ×dJ):Option T:=match ARC x.1&&ARC x.2 with
 | true=>some (T.sl false (List.map Sy.str.enc (AFX x.1.2 x.2.2)))
 | false=>none
noncomputable def NT:List T->Option T:=gS AH9 FF
def APC {a0 a1}:NT [aH true dB a0,aH true dB a1]=FF (a0,a1):=bJ (s:=AH9) rfl (a0,a1) rfl
def A72:sP Tryz.prog 18 NT FF (cJ AH9) AEQ:=iH (a1:=(true,dB)) (a2:=(true,dB)) (sp:=FF) (F:=AEQ) (Hs:=BAV) (f:=18) (k:=10) ATH aZ a7 (aO rfl) ⟨_,_,Tryz.func18,rfl⟩ rfl λ_ _ _=>by kernel_rfl
def A6H:aP Tryz.prog 18 NT:=A72 λa b r h hb=>by
 clear hb;obtain ⟨hc,rfl⟩:=VV h;clear h;rw[ac] at hc;obtain ⟨la,oa⟩:=AK1 hc.1;obtain ⟨lb,ob⟩:=AK1 hc.2;dsimp only at la oa lb ob;unfold AEQ BNB BMZ BMY BMX BM3 BMP BMO;refine A95 (M:=2000010) (l:=b.2) (by omega) (λe he=>Nat.le_trans (SY _) (OA (ob e he))) ob (by omega) λ_ eb sb=>?_;refine A95 (M:=2000010) (l:=a.2) (by omega) (λe he=>Nat.le_trans (SY _) (OA (oa e he))) oa (by omega) λ_ es hs=>?_;have hz:es.length<=1000000000:=Nat.le_trans hs.2.2.1 (by omega);refine ALD (ag:=false) (r:=.bool) rfl (λe=>(fF eb e.1).isSome) (λX out seen i hi h1 h2 hy hn=>?_) λo2 seen hm hl2 hnd=>?_
 ·have h1:out.length<=0+seen.length:=h1;have h2:seen.length<es.length:=h2;dsimp only;refine vB (r:=.bool) (λhg=>?_) λj v hg=>?_
  ·rw[dP (r:=.str) rfl];exact hn (by dsimp only;rw[hg];rfl)
  ·rcases sb.get es[i].1 with ⟨h,_⟩|⟨h,_⟩
   ·rw[h] at hg;cases hg
   ·rw[h] at hg;cases hg;rw[jS,AFI (by omega),MX];exact hy (by dsimp only;rw[h];rfl)
 ·show eE (List (List T)) (EJ (List.map Sy.str.enc ([]++o2))) _;rw[List.nil_append,AGY];rw[AWX (a:=a.2) (b:=b.2) (hnd hs.1) λs=>?_];rw[hm,PY,PY];constructor
  ·rintro ⟨e,he,rfl,h⟩;refine ⟨(hs.2.1 e.1).1 (List.mem_map.2 ⟨e,he,rfl⟩),?_⟩;rcases sb.get e.1 with ⟨h',_⟩|⟨_,h'⟩
   ·rw[h'] at h;cases h
   ·exact h'
  ·rintro ⟨h1,h2⟩;obtain ⟨e,he,h⟩:=List.mem_map.1 ((hs.2.1 s).2 h1);refine ⟨e,he,h,?_⟩;rcases sb.get s with ⟨_,h'⟩|⟨h',_⟩
   ·exact absurd h2 h'
   ·rw[h,h'];rfl
end Go.Pv
namespace Go.Pv
open Go Go.Proofs IntKind
noncomputable def ASJ:Env:=Env.of [(40,.pure RX),(24,.pure AB),(18,.pure NT),(14,.pure sW),(15,.pure oM),(9,.pure gB)]
def AVM:FuncId->Hint:=λ_=>bA
def ADW:aU Tryz.prog ASJ:=.cons BB4 (.cons AXR (.cons A6H (.cons A6E (.cons U0 (.cons AF6 (.nil _))))))
def BM5(R:T->Prop):Prop:=aJ BMF (gB []) λ(y5:Bool)=>R (pPR y5)
def LI(a0:mP)(R:T->Prop):Prop:=aJ BMF (RX [aH true aD a0.1,pPP 40]) λ(y0:Bool)=>aC y0 (aJ BMF (AB [aH true dB a0.2.2.1,pPP 12]) λ(y1:Bool)=>aC (!y1) (aJ BMF (gB []) λ(y2:Bool)=>R (pPR y2)) (aJ BMF (RX [aH true aD a0.1,pPP 40]) λ(y3:Bool)=>aC y3 (aJ BMF (AB [aH true dB a0.2.2.2,pPP 12]) λ(y4:Bool)=>aC (!y4) (BM5 R) (aJ BMO (NT [aH true dB a0.2.2.1,aH true dB a0.2.2.2]) λ(y6:List iII)=>aC (decide (0<(↑(BM3 y6).length:Int))) (BM5 R) (aJ BMJ (sW [aH true aD a0.1,aH true aK a0.2.1, aH true dB a0.2.2.1]) λ(y8:aB×Int)=>aJ BMJ (sW [aH true aD a0.1,aH true aK a0.2.1, aH true dB a0.2.2.2]) λ(y9:aB×Int)=>aC (!decide (y8.2=0)) (BM5 R) (aC (!decide (y9.2=0)) (BM5 R) (aJ BMJ (sW [aH true aD y8.1,aH true aK a0.2.1, aH true dB a0.2.2.2]) λ(y12:aB×Int)=>aJ BMJ (sW [aH true aD y9.1,aH true aK a0.2.1, aH true dB a0.2.2.1]) λ(y13:aB×Int)=>aC (!decide (y12.2=0)) (BM5 R) (aC (!decide (y13.2=0)) (BM5 R) (aJ BMF (oM [aH true aD y12.1,aH true aD y13.1]) λ(y16:Bool)=>aC y16 (BM5 R) (R BMK)))))))) (BM5 R))) (aJ BMF (gB []) λ(y19:Bool)=>R (pPR y19))
abbrev E9:Sh:=[(true,sN)]
noncomputable def uS (x:mP):Option T:=match JI x.1 x.2.2.1&&JI x.1 x.2.2.2 with
 | true=>some (pPR true)
 | false=>none
noncomputable def AAH:List T->Option T:=gS E9 uS
def AQM:w5 Tryz.prog 6 AAH uS (cJ E9) LI:=j5 (a1:=(true,sN)) (sp:=uS) (F:=LI) (Hs:=AVM) (f:=6) (k:=8) ADW aZ a7 (aO rfl) ⟨_,_,Tryz.func6,rfl⟩ rfl λ_ _=>by kernel_rfl
def AOP:aP Tryz.prog 6 AAH:=AQM λa r h hb=>by
 clear hb;obtain ⟨hc,rfl⟩:=j6 h;clear h;obtain ⟨d,m,a,b⟩:=a;rw[ac] at hc;have ca:YT d a:=A9W hc.1;have cb:YT d b:=A9W hc.2;clear hc;unfold LI BM5 BM3 BMO BMK BMJ BMF;refine aG (s:=lB) (y:=ZP d 40) (AAC ..) ?_;refine wU (λhf=>?_) λ_=>awD rfl;have hF:=BBM hf;refine aG (s:=lB) (y:=r4 a 12) (NX ..) ?_;refine iE (λ_=>awD rfl) λha=>?_;refine aG (s:=lB) (y:=ZP d 40) (AAC ..) ?_;refine wU (λ_=>?_) λ_=>awD rfl;refine aG (s:=lB) (y:=r4 b 12) (NX ..) ?_;refine iE (λ_=>awD rfl) λhb=>?_;refine aG (s:=[(false,Sy.str.li)]) (y:=AFX a.2 b.2) ((APC ..).trans (by unfold FF;rw[ZQ (by omega) ha,ZQ (by omega) hb];rfl)) ?_;refine cC (λ_=>awD rfl) λhn=>?_;have la:=Q6 ha;have lb:=Q6 hb;rw[ae] at hn;have hcon:AFX a.2 b.2=[]:=List.eq_nil_of_length_eq_zero (by omega);have hap:∀ s,s∈DN a.2->s∉DN b.2:=λs h1 h2=>by
  have:=ZE.2 ⟨h1,h2⟩;rw[hcon] at this;cases this
 clear hn hcon;refine aG (s:=[(true,aD),(false,.int .i64)]) (y:=mS d m a) (AJO ca hF (by omega)) ?_;refine aG (s:=[(true,aD),(false,.int .i64)]) (y:=mS d m b) (AJO cb hF (by omega)) ?_;refine kU (λ_=>awD rfl) λe1=>?_;refine kU (λ_=>awD rfl) λe2=>?_;obtain ⟨p1,p2,p3⟩:=AWD ca hF e1;obtain ⟨q1,q2,q3⟩:=AWD cb hF e2;obtain ⟨hck,f1⟩:=DV e1;obtain ⟨_,f2⟩:=DV e2;refine aG (s:=[(true,aD),(false,.int .i64)]) (y:=mS (mS d m a).1 m b) (AJO ⟨p2,p3,cb.E⟩ p1 (by omega)) ?_;refine aG (s:=[(true,aD),(false,.int .i64)]) (y:=mS (mS d m b).1 m a) (AJO ⟨q2,q3,ca.E⟩ q1 (by omega)) ?_;refine kU (λ_=>awD rfl) λe3=>?_;refine kU (λ_=>awD rfl) λe4=>?_;obtain ⟨_,f3⟩:=DV e3;obtain ⟨_,f4⟩:=DV e4;have key:(mS (mS d m a).1 m b).1=(mS (mS d m b).1 m a).1:=by
  rw[f3] at e3 ⊢;rw[f4] at e4 ⊢;rw[f1] at e1 e3 ⊢;rw[f2] at e2 e4 ⊢;exact ACH ⟨hck,e1,e2,e3,e4,hap⟩
 refine aG (s:=lB) (y:=l8 (mS (mS d m a).1 m b).1 (mS (mS d m b).1 m a).1) (NV ..) ?_;rw[dX.2 key];exact wU (λ_=>awD rfl) λh=>by cases h
def ARI:∀ x:mP,BA7 E9 x->uS x=some (.v (.bool true)):=λ⟨d,m,a,b⟩ h=>by
 obtain ⟨h1,_,h3,h4⟩:=h;refine dO (c:=JI d a&&JI d b) (a:=pPR true) ?_;rw[ACB h1 h3,ACB h1 h4];rfl
end Go.Pv
