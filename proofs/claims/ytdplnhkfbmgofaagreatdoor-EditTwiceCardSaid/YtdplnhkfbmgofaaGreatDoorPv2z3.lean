/-
  edit.Apply, kind by kind.
  shipyardref19.Few; edit.Apply with a kind that there is not; edit.Apply.
  The reference's Check of a design whose lists do not ascend: it is refused. (What comes behind the form is not reached.)
  The examples of chapter 19, run by the kernel.
  The calls of edit.Apply in the examples of chapter 19, each run for itself. (The table is printed by tools/tab.py.)
  The examples of chapter 19, run by the kernel.
  EditTwice: what the law comes to.
-/
import Derived.Test.YtdplnhkfbmgofaaGreatDoorPv2z2
import Derived.Test.YtdplnhkfbmgofaaGreatDoorPv2z1
import Derived.Test.YtdplnhkfbmgofaaGreatDoorPv2cb
import Derived.Test.YtdplnhkfbmgofaaGreatDoorPv2gs
set_option linter.defProp false
set_option linter.unusedSimpArgs false
set_option linter.unusedVariables false
set_option maxRecDepth 100000
namespace Go.Pv
open Go Go.Proofs
def okX (d:aC) (x:a8):Bool:=uD d&&(hO (fE x)&&fX (jO x))
theorem mO {d:aC} {x:a8} (h:okX d x=true):uD d=true∧hO (fE x)=true∧fX (jO x)=true:=by
 unfold okX at h
 rw[Bool.and_eq_true,Bool.and_eq_true] at h
 exact h
theorem dN {c:Bool} {a:T}:c=true→(match c with|true=>some a|false=>none)=some a:=fun h=>by rw[h]
theorem kN {α:Type} (no:α) (o:Option α):(found no o).2=o.isSome:=by cases o<;>rfl
theorem mI {d:aC} {m:aI} {x:a8} (hk:1≤x.1∧x.1≤12) (h:rB x (bU x)=false):bH d m x=(CX,2):=by
 unfold bH;rw[if_neg (fun h=>h hk),if_pos (.inl h)]
theorem rH {d:aC} {m:aI} {x:a8} (hk:1≤x.1∧x.1≤12) (h5:¬ x.1=5) (h:rB x (bU x)=true) (ha:gP x=true) (ht:dG d x=true):bH d m x=(CX,7):=by
 unfold bH;rw[if_neg (fun h=>h hk),if_neg (fun e=>e.elim (fun e=>by rw[h] at e;cases e) fun e=>h5 e.1),if_pos ⟨ha,ht⟩]
theorem uS {d:aC} {m:aI} {x:a8} (hk:1≤x.1∧x.1≤12) (h5:¬ x.1=5) (h:rB x (bU x)=true) (ha:gP x=false) (ht:dG d x=false):bH d m x=(CX,8):=by
 unfold bH;rw[if_neg (fun h=>h hk),if_neg (fun e=>e.elim (fun e=>by rw[h] at e;cases e) fun e=>h5 e.1),if_neg (fun e=>by rw[ha] at e;cases e.1),if_pos ⟨ha,ht⟩]
theorem AO {d:aC} {m:aI} {x:a8} (hk:1≤x.1∧x.1≤12) (h5:¬ x.1=5) (h:rB x (bU x)=true) (ha:dG d x = !gP x) (hu:kS d x=true):bH d m x=(CX,34):=by
 unfold bH
 rw[if_neg (fun h=>h hk),if_neg (fun e=>e.elim (fun e=>by rw[h] at e;cases e) fun e=>h5 e.1),if_neg (fun e=>by rw[ha,e.1] at e;cases e.2),if_neg (fun e=>by rw[ha,e.1] at e;cases e.2),if_neg (fun e=>h5 e.1),if_pos hu]
theorem eF {d:aC} {m:aI} {x:a8} (hk:1≤x.1∧x.1≤12) (h5:¬ x.1=5) (h:rB x (bU x)=true) (ha:dG d x = !gP x) (hu:kS d x=false):bH d m x=if lV (p8 d x) m=0 then (p8 d x,0) else (CX,lV (p8 d x) m):=by
 unfold bH
 rw[if_neg (fun h=>h hk),if_neg (fun e=>e.elim (fun e=>by rw[h] at e;cases e) fun e=>h5 e.1),if_neg (fun e=>by rw[ha,e.1] at e;cases e.2),if_neg (fun e=>by rw[ha,e.1] at e;cases e.2),if_neg (fun e=>h5 e.1),if_neg (by rw[hu];decide)]
def FI (a0:aC) (a1:aI) (a2:ByteArray×ByteArray×bI×aY×bK×aM×bC):List T:=[aH true aE a0,aH true aK a1,aH true aU (1,a2)]
noncomputable def AMV:Env:=Env.of [(36,.pure cL),(120,.pure OV),(122,.pure zQ),(38,.pure eO),(123,.pure OK),(39,.pure dB)]
def A1E:FuncId→Hint:=fun _=>aX
theorem AXE:aR Tryz.prog AMV:=.cons jY (.cons A37 (.cons AF2 (.cons mL (.cons A3S (.cons mK (.nil _))))))
def BC7:List T:=[T.v (.string {data:=#[]}),T.sl false [],T.sl false [], T.sl false [],T.sl false [],T.sl false []]
def BC8:List T:=[T.v (.string {data:=#[]}),T.sl false [], T.sl false [],T.sl false [],T.sl false [], T.sl false []]
def BC9:Sh:=[(false,Sy.int IntKind.i64)]
def BDA:Sh:=[(false,Sy.bool)]
def BDB:List T:=[T.agg BC7, T.v (.int .i64 2)]
def BDC:T:=T.v (.bool false)
def BDD:List T:=[T.agg BC7, T.v (.int .i64 8)]
def BDE:List T:=[T.agg BC7, T.v (.int .i64 34)]
def BDF:List T:=[T.agg BC7, T.v (.int .i64 7)]
def BDG:T:=T.v (.bool true)
def BDH(a2:ByteArray×ByteArray×bI×aY×bK×aM×bC):List T:=[T.v (.int .i64 1),T.v (.string a2.1), T.v (.string a2.2.1),T.v (.string a2.2.2.1.1), T.v (.int .i64 a2.2.2.1.2.1), T.v (.string a2.2.2.1.2.2),T.v (.string a2.2.2.2.1.1), T.v (.int .i64 a2.2.2.2.1.2.1), T.v (.int .i64 a2.2.2.2.1.2.2.1), T.v (.string a2.2.2.2.1.2.2.2.1), T.v (.string a2.2.2.2.1.2.2.2.2.1), T.v (.int .i64 a2.2.2.2.1.2.2.2.2.2.1), T.sl false (List.map aA.enc a2.2.2.2.1.2.2.2.2.2.2.1.1), T.sl false (List.map aA.li.enc a2.2.2.2.1.2.2.2.2.2.2.1.2), T.v (.string a2.2.2.2.1.2.2.2.2.2.2.2.1), T.v (.int .i64 a2.2.2.2.1.2.2.2.2.2.2.2.2.1), T.v (.int .i64 a2.2.2.2.1.2.2.2.2.2.2.2.2.2.1), T.v (.int .i64 a2.2.2.2.1.2.2.2.2.2.2.2.2.2.2.1.1), T.v (Value.int IntKind.i64 a2.2.2.2.1.2.2.2.2.2.2.2.2.2.2.1.2.1), T.v (Value.int IntKind.i64 a2.2.2.2.1.2.2.2.2.2.2.2.2.2.2.1.2.2), T.v (Value.int IntKind.i64 a2.2.2.2.1.2.2.2.2.2.2.2.2.2.2.2.1.1), T.v (Value.int IntKind.i64 a2.2.2.2.1.2.2.2.2.2.2.2.2.2.2.2.1.2.1), T.v (Value.int IntKind.i64 a2.2.2.2.1.2.2.2.2.2.2.2.2.2.2.2.1.2.2), T.v (.int .i64 a2.2.2.2.1.2.2.2.2.2.2.2.2.2.2.2.2), T.v (.string a2.2.2.2.2.1.1), T.v (.string a2.2.2.2.2.1.2.1), T.v (.string a2.2.2.2.2.1.2.2.1), T.v (.int .i64 a2.2.2.2.2.1.2.2.2.1), T.v (.int .i64 a2.2.2.2.2.1.2.2.2.2.1), T.v (.int .i64 a2.2.2.2.2.1.2.2.2.2.2), T.v (.string a2.2.2.2.2.2.1.1), T.v (.string a2.2.2.2.2.2.1.2.1), T.sl false (List.map Sy.str.enc a2.2.2.2.2.2.1.2.2.1), T.v (.int .i64 a2.2.2.2.2.2.1.2.2.2.1), T.sl false (List.map Sy.str.enc a2.2.2.2.2.2.1.2.2.2.2), T.v (.int .i64 a2.2.2.2.2.2.2.1), T.v (.string a2.2.2.2.2.2.2.2.1), T.v (.string a2.2.2.2.2.2.2.2.2)]
def AOJ(a0:aC)(a1:aI)(a2:ByteArray×ByteArray×bI×aY×bK×aM×bC)(R:T→Prop):Prop:=aJ [(true,aU)] (OV [T.agg (BDH a2)]) fun (y0:a8)=>aJ BDA (cL [T.agg (BDH a2), aH true aU y0]) fun (y1:Bool)=>aB (!y1) (R (T.cC BDB)) (aJ [(true,aZ),(false,Sy.bool)] (zQ [aH true aE a0,T.v (.string a2.2.2.1.1)]) fun (y2:bI×Bool)=>aB y2.2 (R (T.cC BDF)) (aJ [(true,aE)] (eO [aH true aE a0]) fun (y3:aC)=>aJ [(true,aE)] (OK [aH true aE y3, T.agg [T.v (.int .i64 1),T.v (.string a2.1), T.v (.string a2.2.1),T.v (.string a2.2.2.1.1), T.v (.int .i64 a2.2.2.1.2.1), T.v (.string a2.2.2.1.2.2), T.v (.string a2.2.2.2.1.1), T.v (.int .i64 a2.2.2.2.1.2.1), T.v (.int .i64 a2.2.2.2.1.2.2.1), T.v (.string a2.2.2.2.1.2.2.2.1), T.v (.string a2.2.2.2.1.2.2.2.2.1), T.v (.int .i64 a2.2.2.2.1.2.2.2.2.2.1), T.sl false (List.map aA.enc a2.2.2.2.1.2.2.2.2.2.2.1.1), T.sl false (List.map aA.li.enc a2.2.2.2.1.2.2.2.2.2.2.1.2), T.v (.string a2.2.2.2.1.2.2.2.2.2.2.2.1), T.v (.int .i64 a2.2.2.2.1.2.2.2.2.2.2.2.2.1), T.v (Value.int IntKind.i64 a2.2.2.2.1.2.2.2.2.2.2.2.2.2.1), T.v (Value.int IntKind.i64 a2.2.2.2.1.2.2.2.2.2.2.2.2.2.2.1.1), T.v (Value.int IntKind.i64 a2.2.2.2.1.2.2.2.2.2.2.2.2.2.2.1.2.1), T.v (Value.int IntKind.i64 a2.2.2.2.1.2.2.2.2.2.2.2.2.2.2.1.2.2), T.v (Value.int IntKind.i64 a2.2.2.2.1.2.2.2.2.2.2.2.2.2.2.2.1.1), T.v (Value.int IntKind.i64 a2.2.2.2.1.2.2.2.2.2.2.2.2.2.2.2.1.2.1), T.v (Value.int IntKind.i64 a2.2.2.2.1.2.2.2.2.2.2.2.2.2.2.2.1.2.2), T.v (Value.int IntKind.i64 a2.2.2.2.1.2.2.2.2.2.2.2.2.2.2.2.2), T.v (.string a2.2.2.2.2.1.1), T.v (.string a2.2.2.2.2.1.2.1), T.v (.string a2.2.2.2.2.1.2.2.1), T.v (.int .i64 a2.2.2.2.2.1.2.2.2.1), T.v (.int .i64 a2.2.2.2.2.1.2.2.2.2.1), T.v (.int .i64 a2.2.2.2.2.1.2.2.2.2.2), T.v (.string a2.2.2.2.2.2.1.1), T.v (.string a2.2.2.2.2.2.1.2.1), T.sl false (List.map Sy.str.enc a2.2.2.2.2.2.1.2.2.1), T.v (.int .i64 a2.2.2.2.2.2.1.2.2.2.1), T.sl false (List.map Sy.str.enc a2.2.2.2.2.2.1.2.2.2.2), T.v (.int .i64 a2.2.2.2.2.2.2.1), T.v (.string a2.2.2.2.2.2.2.2.1), T.v (.string a2.2.2.2.2.2.2.2.2)]]) fun (y4:aC)=>aJ BC9 (dB [aH true aE y4,aH true aK a1]) fun (y5:Int)=>aB (!decide (y5=0)) (R (T.cC [T.agg BC7, T.v (.int .i64 y5)])) (R (T.cC [aH true aE y4,T.v (.int .i64 0)]))))
theorem AOK ( a0 a1 a2 R):dS bZ Tryz.prog AMV A1E 8 13 (FI a0 a1 a2) R=AOJ a0 a1 a2 R:=by kernel_rfl
noncomputable def AEW (x:aC×aI×ByteArray×ByteArray×bI×aY×bK×aM×bC):Option T:=match okX x.1 (1,x.2.2) with
 | true=>some (Sh.enc [(true,aE),(false,.int .i64)] (bH x.1 x.2.1 (1,x.2.2)))
 | false=>none
theorem AHB (x y:aC×aI×ByteArray×ByteArray×bI×aY×bK×aM×bC) (h:FI x.1 x.2.1 x.2.2=FI y.1 y.2.1 y.2.2):x=y:=by
 simp only[FI,List.cons.injEq,and_true] at h
 obtain ⟨h1,h2,h3⟩:=h
 have e1:=bX (r:=aE) rfl h1
 have e2:=bX (r:=aK) rfl h2
 have e3:=(Prod.mk.inj (bX (r:=aU) rfl h3)).2
 exact Prod.ext e1 (Prod.ext e2 e3)
noncomputable def ASF:List T→Option (T):=gA (fun (x:aC×aI×ByteArray×ByteArray×bI×aY×bK×aM×bC)=>FI x.1 x.2.1 x.2.2) AEW
theorem ASG (a0:aC) (a1:aI) (a2:ByteArray×ByteArray×bI×aY×bK×aM×bC):ASF (FI a0 a1 a2)=AEW (a0,a1,a2):=e8 (A:=(fun (x:aC×aI×ByteArray×ByteArray×bI×aY×bK×aM×bC)=>FI x.1 x.2.1 x.2.2)) AHB (a0,a1,a2)
theorem A5D (h:∀ (a0:aC) (a1:aI) (a2:ByteArray×ByteArray×bI×aY×bK×aM×bC) (r:T),AEW (a0,a1,a2)=some r→(∀ t∈FI a0 a1 a2,Bd t)→AOJ a0 a1 a2 (fun y=>y=r)):aN Tryz.prog 13 ASF :=
 cQ (E:=AMV) (Hs:=A1E) AXE aT aW (aL rfl) 8 ⟨_,_,Tryz.func13,rfl⟩ fun x r h1 h2=>by
  rw[AOK]
  exact h x.1 x.2.1 x.2.2 r h1 h2
theorem ARU:aN Tryz.prog 13 ASF:=A5D fun d m x r h hb=>by
 clear hb
 obtain ⟨hp,rfl⟩:=lO h
 clear h
 obtain ⟨hc,ho1,ho2⟩:=mO hp
 have c:=dP hc
 have is:∀ {a:aC×Int},bH d m (1,x)=a→Sh.enc [(true,aE),(false,.int .i64)] a=Sh.enc [(true,aE),(false,.int .i64)] (bH d m (1,x)):=fun h=>by rw[h]
 have hk:(1:Int)≤((1,x):a8).1∧((1,x):a8).1≤12:=by dsimp only;omega
 have h5:¬ ((1,x):a8).1=5:=by dsimp only;omega
 have lift:∀ {a:aC×Int},bH d m (1,x)=a→∀ v,v=Sh.enc [(true,aE),(false,.int .i64)] a→v=Sh.enc [(true,aE),(false,.int .i64)] (bH d m (1,x)):=fun h v hv=>by rw[h];exact hv
 unfold AOJ BDH BDF BDB BDA BC9 BC7
 have z1:OV [aH true aU (1,x)]=some (Sh.enc [(true,aU)] (bU (1,x))):=(AS6 ..).trans rfl
 refine aF (s:=[(true,aU)]) (y:=bU (1,x)) z1 ?_
 have z2:cL [aH true aU (1,x),aH true aU (bU (1,x))]=some (Sh.enc mD (rB (1,x) (bU (1,x)))):=fT ..
 refine aF (s:=mD) (y:=rB (1,x) (bU (1,x))) z2 ?_
 refine fB (fun h=>lift (mI hk h) _ rfl) fun hE=>?_
 refine aF (s:=[(true,aZ),(false,.bool)]) (y:=found gY (fW d (p9 (1,x)).1)) (OS ..) ?_
 have ht:dG d (1,x)=(found gY (fW d (p9 (1,x)).1)).2:=(kN ..).symm
 have hus:kS d (1,x)=false:=rfl
 refine sZ (fun h=>lift (rH hk h5 hE rfl (ht.trans h)) _ rfl) fun h=>?_
 have hth:dG d (1,x) = !gP (1,x):=ht.trans h
 refine aF (s:=[(true,aE)]) (y:=d) ((iJ ..).trans (dN hc)) ?_
 have z3:OK [aH true aE d,aH true aU (1,x)]=some (Sh.enc [(true,aE)] (p8 d (1,x))):=(AST ..).trans (dN hc)
 refine aF (s:=[(true,aE)]) (y:=p8 d (1,x)) z3 ?_
 refine aF (s:=[(false,.int .i64)]) (y:=lV (p8 d (1,x)) m) (iI ..) ?_
 exact jB (fun h=>lift ((eF hk h5 hE hth hus).trans (if_neg h)) _ rfl) fun h=>lift ((eF hk h5 hE hth hus).trans (if_pos h)) _ rfl
def FK (a0:aC) (a1:aI) (a2:ByteArray×ByteArray×bI×aY×bK×aM×bC):List T:=[aH true aE a0,aH true aK a1,aH true aU (3,a2)]
noncomputable def AMX:Env:=Env.of [(36,.pure cL),(140,.pure OY),(37,.pure sR),(38,.pure eO),(142,.pure OM),(39,.pure dB)]
def A1G:FuncId→Hint:=fun _=>aX
theorem AXG:aR Tryz.prog AMX:=.cons jY (.cons A39 (.cons V7 (.cons mL (.cons A3U (.cons mK (.nil _))))))
def BDI(a2:ByteArray×ByteArray×bI×aY×bK×aM×bC):List T:=[T.v (.int .i64 3),T.v (.string a2.1), T.v (.string a2.2.1),T.v (.string a2.2.2.1.1), T.v (.int .i64 a2.2.2.1.2.1), T.v (.string a2.2.2.1.2.2),T.v (.string a2.2.2.2.1.1), T.v (.int .i64 a2.2.2.2.1.2.1), T.v (.int .i64 a2.2.2.2.1.2.2.1), T.v (.string a2.2.2.2.1.2.2.2.1), T.v (.string a2.2.2.2.1.2.2.2.2.1), T.v (.int .i64 a2.2.2.2.1.2.2.2.2.2.1), T.sl false (List.map aA.enc a2.2.2.2.1.2.2.2.2.2.2.1.1), T.sl false (List.map aA.li.enc a2.2.2.2.1.2.2.2.2.2.2.1.2), T.v (.string a2.2.2.2.1.2.2.2.2.2.2.2.1), T.v (.int .i64 a2.2.2.2.1.2.2.2.2.2.2.2.2.1), T.v (.int .i64 a2.2.2.2.1.2.2.2.2.2.2.2.2.2.1), T.v (.int .i64 a2.2.2.2.1.2.2.2.2.2.2.2.2.2.2.1.1), T.v (Value.int IntKind.i64 a2.2.2.2.1.2.2.2.2.2.2.2.2.2.2.1.2.1), T.v (Value.int IntKind.i64 a2.2.2.2.1.2.2.2.2.2.2.2.2.2.2.1.2.2), T.v (Value.int IntKind.i64 a2.2.2.2.1.2.2.2.2.2.2.2.2.2.2.2.1.1), T.v (Value.int IntKind.i64 a2.2.2.2.1.2.2.2.2.2.2.2.2.2.2.2.1.2.1), T.v (Value.int IntKind.i64 a2.2.2.2.1.2.2.2.2.2.2.2.2.2.2.2.1.2.2), T.v (.int .i64 a2.2.2.2.1.2.2.2.2.2.2.2.2.2.2.2.2), T.v (.string a2.2.2.2.2.1.1), T.v (.string a2.2.2.2.2.1.2.1), T.v (.string a2.2.2.2.2.1.2.2.1), T.v (.int .i64 a2.2.2.2.2.1.2.2.2.1), T.v (.int .i64 a2.2.2.2.2.1.2.2.2.2.1), T.v (.int .i64 a2.2.2.2.2.1.2.2.2.2.2), T.v (.string a2.2.2.2.2.2.1.1), T.v (.string a2.2.2.2.2.2.1.2.1), T.sl false (List.map Sy.str.enc a2.2.2.2.2.2.1.2.2.1), T.v (.int .i64 a2.2.2.2.2.2.1.2.2.2.1), T.sl false (List.map Sy.str.enc a2.2.2.2.2.2.1.2.2.2.2), T.v (.int .i64 a2.2.2.2.2.2.2.1), T.v (.string a2.2.2.2.2.2.2.2.1), T.v (.string a2.2.2.2.2.2.2.2.2)]
def AON(a0:aC)(a1:aI)(a2:ByteArray×ByteArray×bI×aY×bK×aM×bC)(R:T→Prop):Prop:=aJ [(true,aU)] (OY [T.agg (BDI a2)]) fun (y0:a8)=>aJ BDA (cL [T.agg (BDI a2), aH true aU y0]) fun (y1:Bool)=>aB (!y1) (R (T.cC BDB)) (aJ [(true,aO),(false,Sy.bool)] (sR [aH true aE a0,T.v (.string a2.2.2.2.1.1)]) fun (y2:aY×Bool)=>aB y2.2 (R (T.cC BDF)) (aJ [(true,aE)] (eO [aH true aE a0]) fun (y3:aC)=>aJ [(true,aE)] (OM [aH true aE y3, T.agg [T.v (.int .i64 3),T.v (.string a2.1), T.v (.string a2.2.1),T.v (.string a2.2.2.1.1), T.v (.int .i64 a2.2.2.1.2.1), T.v (.string a2.2.2.1.2.2), T.v (.string a2.2.2.2.1.1), T.v (.int .i64 a2.2.2.2.1.2.1), T.v (.int .i64 a2.2.2.2.1.2.2.1), T.v (.string a2.2.2.2.1.2.2.2.1), T.v (.string a2.2.2.2.1.2.2.2.2.1), T.v (.int .i64 a2.2.2.2.1.2.2.2.2.2.1), T.sl false (List.map aA.enc a2.2.2.2.1.2.2.2.2.2.2.1.1), T.sl false (List.map aA.li.enc a2.2.2.2.1.2.2.2.2.2.2.1.2), T.v (.string a2.2.2.2.1.2.2.2.2.2.2.2.1), T.v (.int .i64 a2.2.2.2.1.2.2.2.2.2.2.2.2.1), T.v (Value.int IntKind.i64 a2.2.2.2.1.2.2.2.2.2.2.2.2.2.1), T.v (Value.int IntKind.i64 a2.2.2.2.1.2.2.2.2.2.2.2.2.2.2.1.1), T.v (Value.int IntKind.i64 a2.2.2.2.1.2.2.2.2.2.2.2.2.2.2.1.2.1), T.v (Value.int IntKind.i64 a2.2.2.2.1.2.2.2.2.2.2.2.2.2.2.1.2.2), T.v (Value.int IntKind.i64 a2.2.2.2.1.2.2.2.2.2.2.2.2.2.2.2.1.1), T.v (Value.int IntKind.i64 a2.2.2.2.1.2.2.2.2.2.2.2.2.2.2.2.1.2.1), T.v (Value.int IntKind.i64 a2.2.2.2.1.2.2.2.2.2.2.2.2.2.2.2.1.2.2), T.v (Value.int IntKind.i64 a2.2.2.2.1.2.2.2.2.2.2.2.2.2.2.2.2), T.v (.string a2.2.2.2.2.1.1), T.v (.string a2.2.2.2.2.1.2.1), T.v (.string a2.2.2.2.2.1.2.2.1), T.v (.int .i64 a2.2.2.2.2.1.2.2.2.1), T.v (.int .i64 a2.2.2.2.2.1.2.2.2.2.1), T.v (.int .i64 a2.2.2.2.2.1.2.2.2.2.2), T.v (.string a2.2.2.2.2.2.1.1), T.v (.string a2.2.2.2.2.2.1.2.1), T.sl false (List.map Sy.str.enc a2.2.2.2.2.2.1.2.2.1), T.v (.int .i64 a2.2.2.2.2.2.1.2.2.2.1), T.sl false (List.map Sy.str.enc a2.2.2.2.2.2.1.2.2.2.2), T.v (.int .i64 a2.2.2.2.2.2.2.1), T.v (.string a2.2.2.2.2.2.2.2.1), T.v (.string a2.2.2.2.2.2.2.2.2)]]) fun (y4:aC)=>aJ BC9 (dB [aH true aE y4,aH true aK a1]) fun (y5:Int)=>aB (!decide (y5=0)) (R (T.cC [T.agg BC7, T.v (.int .i64 y5)])) (R (T.cC [aH true aE y4,T.v (.int .i64 0)]))))
theorem AOO ( a0 a1 a2 R):dS bZ Tryz.prog AMX A1G 8 13 (FK a0 a1 a2) R=AON a0 a1 a2 R:=by kernel_rfl
noncomputable def AEY (x:aC×aI×ByteArray×ByteArray×bI×aY×bK×aM×bC):Option T:=match okX x.1 (3,x.2.2) with
 | true=>some (Sh.enc [(true,aE),(false,.int .i64)] (bH x.1 x.2.1 (3,x.2.2)))
 | false=>none
theorem AHD (x y:aC×aI×ByteArray×ByteArray×bI×aY×bK×aM×bC) (h:FK x.1 x.2.1 x.2.2=FK y.1 y.2.1 y.2.2):x=y:=by
 simp only[FK,List.cons.injEq,and_true] at h
 obtain ⟨h1,h2,h3⟩:=h
 have e1:=bX (r:=aE) rfl h1
 have e2:=bX (r:=aK) rfl h2
 have e3:=(Prod.mk.inj (bX (r:=aU) rfl h3)).2
 exact Prod.ext e1 (Prod.ext e2 e3)
noncomputable def ASJ:List T→Option (T):=gA (fun (x:aC×aI×ByteArray×ByteArray×bI×aY×bK×aM×bC)=>FK x.1 x.2.1 x.2.2) AEY
theorem ASK (a0:aC) (a1:aI) (a2:ByteArray×ByteArray×bI×aY×bK×aM×bC):ASJ (FK a0 a1 a2)=AEY (a0,a1,a2):=e8 (A:=(fun (x:aC×aI×ByteArray×ByteArray×bI×aY×bK×aM×bC)=>FK x.1 x.2.1 x.2.2)) AHD (a0,a1,a2)
theorem A5F (h:∀ (a0:aC) (a1:aI) (a2:ByteArray×ByteArray×bI×aY×bK×aM×bC) (r:T),AEY (a0,a1,a2)=some r→(∀ t∈FK a0 a1 a2,Bd t)→AON a0 a1 a2 (fun y=>y=r)):aN Tryz.prog 13 ASJ :=
 cQ (E:=AMX) (Hs:=A1G) AXG aT aW (aL rfl) 8 ⟨_,_,Tryz.func13,rfl⟩ fun x r h1 h2=>by
  rw[AOO]
  exact h x.1 x.2.1 x.2.2 r h1 h2
theorem A3N:aN Tryz.prog 13 ASJ:=A5F fun d m x r h hb=>by
 clear hb
 obtain ⟨hp,rfl⟩:=lO h
 clear h
 obtain ⟨hc,ho1,ho2⟩:=mO hp
 have c:=dP hc
 have is:∀ {a:aC×Int},bH d m (3,x)=a→Sh.enc [(true,aE),(false,.int .i64)] a=Sh.enc [(true,aE),(false,.int .i64)] (bH d m (3,x)):=fun h=>by rw[h]
 have hk:(1:Int)≤((3,x):a8).1∧((3,x):a8).1≤12:=by dsimp only;omega
 have h5:¬ ((3,x):a8).1=5:=by dsimp only;omega
 have lift:∀ {a:aC×Int},bH d m (3,x)=a→∀ v,v=Sh.enc [(true,aE),(false,.int .i64)] a→v=Sh.enc [(true,aE),(false,.int .i64)] (bH d m (3,x)):=fun h v hv=>by rw[h];exact hv
 unfold AON BDI BDF BDB BDA BC9 BC7
 have z1:OY [aH true aU (3,x)]=some (Sh.enc [(true,aU)] (bU (3,x))):=(AS8 ..).trans rfl
 refine aF (s:=[(true,aU)]) (y:=bU (3,x)) z1 ?_
 have z2:cL [aH true aU (3,x),aH true aU (bU (3,x))]=some (Sh.enc mD (rB (3,x) (bU (3,x)))):=fT ..
 refine aF (s:=mD) (y:=rB (3,x) (bU (3,x))) z2 ?_
 refine fB (fun h=>lift (mI hk h) _ rfl) fun hE=>?_
 refine aF (s:=[(true,aO),(false,.bool)]) (y:=found fV (partOf d (fE (3,x)).1)) ((KU ..).trans (by unfold pE;dsimp only;rw[c.okD];rfl)) ?_
 have ht:dG d (3,x)=(found fV (partOf d (fE (3,x)).1)).2:=(kN ..).symm
 have hus:kS d (3,x)=false:=rfl
 refine sZ (fun h=>lift (rH hk h5 hE rfl (ht.trans h)) _ rfl) fun h=>?_
 have hth:dG d (3,x) = !gP (3,x):=ht.trans h
 refine aF (s:=[(true,aE)]) (y:=d) ((iJ ..).trans (dN hc)) ?_
 have z3:OM [aH true aE d,aH true aU (3,x)]=some (Sh.enc [(true,aE)] (p8 d (3,x))):=(ASV ..).trans (dN (by rw[hc,ho1];rfl))
 refine aF (s:=[(true,aE)]) (y:=p8 d (3,x)) z3 ?_
 refine aF (s:=[(false,.int .i64)]) (y:=lV (p8 d (3,x)) m) (iI ..) ?_
 exact jB (fun h=>lift ((eF hk h5 hE hth hus).trans (if_neg h)) _ rfl) fun h=>lift ((eF hk h5 hE hth hus).trans (if_pos h)) _ rfl
def FM (a0:aC) (a1:aI) (a2:ByteArray×ByteArray×bI×aY×bK×aM×bC):List T:=[aH true aE a0,aH true aK a1,aH true aU (7,a2)]
noncomputable def AMZ:Env:=Env.of [(36,.pure cL),(168,.pure O0),(170,.pure zT),(38,.pure eO),(171,.pure OO),(39,.pure dB)]
def A1I:FuncId→Hint:=fun _=>aX
theorem AXI:aR Tryz.prog AMZ:=.cons jY (.cons A4B (.cons AF6 (.cons mL (.cons A3W (.cons mK (.nil _))))))
def BDJ(a2:ByteArray×ByteArray×bI×aY×bK×aM×bC):List T:=[T.v (.int .i64 7),T.v (.string a2.1), T.v (.string a2.2.1),T.v (.string a2.2.2.1.1), T.v (.int .i64 a2.2.2.1.2.1), T.v (.string a2.2.2.1.2.2),T.v (.string a2.2.2.2.1.1), T.v (.int .i64 a2.2.2.2.1.2.1), T.v (.int .i64 a2.2.2.2.1.2.2.1), T.v (.string a2.2.2.2.1.2.2.2.1), T.v (.string a2.2.2.2.1.2.2.2.2.1), T.v (.int .i64 a2.2.2.2.1.2.2.2.2.2.1), T.sl false (List.map aA.enc a2.2.2.2.1.2.2.2.2.2.2.1.1), T.sl false (List.map aA.li.enc a2.2.2.2.1.2.2.2.2.2.2.1.2), T.v (.string a2.2.2.2.1.2.2.2.2.2.2.2.1), T.v (.int .i64 a2.2.2.2.1.2.2.2.2.2.2.2.2.1), T.v (.int .i64 a2.2.2.2.1.2.2.2.2.2.2.2.2.2.1), T.v (.int .i64 a2.2.2.2.1.2.2.2.2.2.2.2.2.2.2.1.1), T.v (Value.int IntKind.i64 a2.2.2.2.1.2.2.2.2.2.2.2.2.2.2.1.2.1), T.v (Value.int IntKind.i64 a2.2.2.2.1.2.2.2.2.2.2.2.2.2.2.1.2.2), T.v (Value.int IntKind.i64 a2.2.2.2.1.2.2.2.2.2.2.2.2.2.2.2.1.1), T.v (Value.int IntKind.i64 a2.2.2.2.1.2.2.2.2.2.2.2.2.2.2.2.1.2.1), T.v (Value.int IntKind.i64 a2.2.2.2.1.2.2.2.2.2.2.2.2.2.2.2.1.2.2), T.v (.int .i64 a2.2.2.2.1.2.2.2.2.2.2.2.2.2.2.2.2), T.v (.string a2.2.2.2.2.1.1), T.v (.string a2.2.2.2.2.1.2.1), T.v (.string a2.2.2.2.2.1.2.2.1), T.v (.int .i64 a2.2.2.2.2.1.2.2.2.1), T.v (.int .i64 a2.2.2.2.2.1.2.2.2.2.1), T.v (.int .i64 a2.2.2.2.2.1.2.2.2.2.2), T.v (.string a2.2.2.2.2.2.1.1), T.v (.string a2.2.2.2.2.2.1.2.1), T.sl false (List.map Sy.str.enc a2.2.2.2.2.2.1.2.2.1), T.v (.int .i64 a2.2.2.2.2.2.1.2.2.2.1), T.sl false (List.map Sy.str.enc a2.2.2.2.2.2.1.2.2.2.2), T.v (.int .i64 a2.2.2.2.2.2.2.1), T.v (.string a2.2.2.2.2.2.2.2.1), T.v (.string a2.2.2.2.2.2.2.2.2)]
def AOR(a0:aC)(a1:aI)(a2:ByteArray×ByteArray×bI×aY×bK×aM×bC)(R:T→Prop):Prop:=aJ [(true,aU)] (O0 [T.agg (BDJ a2)]) fun (y0:a8)=>aJ BDA (cL [T.agg (BDJ a2), aH true aU y0]) fun (y1:Bool)=>aB (!y1) (R (T.cC BDB)) (aJ [(true,a7),(false,Sy.bool)] (zT [aH true aE a0,T.v (.string a2.2.2.2.2.1.1)]) fun (y2:bK×Bool)=>aB y2.2 (R (T.cC BDF)) (aJ [(true,aE)] (eO [aH true aE a0]) fun (y3:aC)=>aJ [(true,aE)] (OO [aH true aE y3, T.agg [T.v (.int .i64 7),T.v (.string a2.1), T.v (.string a2.2.1),T.v (.string a2.2.2.1.1), T.v (.int .i64 a2.2.2.1.2.1), T.v (.string a2.2.2.1.2.2), T.v (.string a2.2.2.2.1.1), T.v (.int .i64 a2.2.2.2.1.2.1), T.v (.int .i64 a2.2.2.2.1.2.2.1), T.v (.string a2.2.2.2.1.2.2.2.1), T.v (.string a2.2.2.2.1.2.2.2.2.1), T.v (.int .i64 a2.2.2.2.1.2.2.2.2.2.1), T.sl false (List.map aA.enc a2.2.2.2.1.2.2.2.2.2.2.1.1), T.sl false (List.map aA.li.enc a2.2.2.2.1.2.2.2.2.2.2.1.2), T.v (.string a2.2.2.2.1.2.2.2.2.2.2.2.1), T.v (.int .i64 a2.2.2.2.1.2.2.2.2.2.2.2.2.1), T.v (Value.int IntKind.i64 a2.2.2.2.1.2.2.2.2.2.2.2.2.2.1), T.v (Value.int IntKind.i64 a2.2.2.2.1.2.2.2.2.2.2.2.2.2.2.1.1), T.v (Value.int IntKind.i64 a2.2.2.2.1.2.2.2.2.2.2.2.2.2.2.1.2.1), T.v (Value.int IntKind.i64 a2.2.2.2.1.2.2.2.2.2.2.2.2.2.2.1.2.2), T.v (Value.int IntKind.i64 a2.2.2.2.1.2.2.2.2.2.2.2.2.2.2.2.1.1), T.v (Value.int IntKind.i64 a2.2.2.2.1.2.2.2.2.2.2.2.2.2.2.2.1.2.1), T.v (Value.int IntKind.i64 a2.2.2.2.1.2.2.2.2.2.2.2.2.2.2.2.1.2.2), T.v (Value.int IntKind.i64 a2.2.2.2.1.2.2.2.2.2.2.2.2.2.2.2.2), T.v (.string a2.2.2.2.2.1.1), T.v (.string a2.2.2.2.2.1.2.1), T.v (.string a2.2.2.2.2.1.2.2.1), T.v (.int .i64 a2.2.2.2.2.1.2.2.2.1), T.v (.int .i64 a2.2.2.2.2.1.2.2.2.2.1), T.v (.int .i64 a2.2.2.2.2.1.2.2.2.2.2), T.v (.string a2.2.2.2.2.2.1.1), T.v (.string a2.2.2.2.2.2.1.2.1), T.sl false (List.map Sy.str.enc a2.2.2.2.2.2.1.2.2.1), T.v (.int .i64 a2.2.2.2.2.2.1.2.2.2.1), T.sl false (List.map Sy.str.enc a2.2.2.2.2.2.1.2.2.2.2), T.v (.int .i64 a2.2.2.2.2.2.2.1), T.v (.string a2.2.2.2.2.2.2.2.1), T.v (.string a2.2.2.2.2.2.2.2.2)]]) fun (y4:aC)=>aJ BC9 (dB [aH true aE y4,aH true aK a1]) fun (y5:Int)=>aB (!decide (y5=0)) (R (T.cC [T.agg BC7, T.v (.int .i64 y5)])) (R (T.cC [aH true aE y4,T.v (.int .i64 0)]))))
theorem AOS ( a0 a1 a2 R):dS bZ Tryz.prog AMZ A1I 8 13 (FM a0 a1 a2) R=AOR a0 a1 a2 R:=by kernel_rfl
noncomputable def AE0 (x:aC×aI×ByteArray×ByteArray×bI×aY×bK×aM×bC):Option T:=match okX x.1 (7,x.2.2) with
 | true=>some (Sh.enc [(true,aE),(false,.int .i64)] (bH x.1 x.2.1 (7,x.2.2)))
 | false=>none
theorem AHF (x y:aC×aI×ByteArray×ByteArray×bI×aY×bK×aM×bC) (h:FM x.1 x.2.1 x.2.2=FM y.1 y.2.1 y.2.2):x=y:=by
 simp only[FM,List.cons.injEq,and_true] at h
 obtain ⟨h1,h2,h3⟩:=h
 have e1:=bX (r:=aE) rfl h1
 have e2:=bX (r:=aK) rfl h2
 have e3:=(Prod.mk.inj (bX (r:=aU) rfl h3)).2
 exact Prod.ext e1 (Prod.ext e2 e3)
noncomputable def ASN:List T→Option (T):=gA (fun (x:aC×aI×ByteArray×ByteArray×bI×aY×bK×aM×bC)=>FM x.1 x.2.1 x.2.2) AE0
theorem ASO (a0:aC) (a1:aI) (a2:ByteArray×ByteArray×bI×aY×bK×aM×bC):ASN (FM a0 a1 a2)=AE0 (a0,a1,a2):=e8 (A:=(fun (x:aC×aI×ByteArray×ByteArray×bI×aY×bK×aM×bC)=>FM x.1 x.2.1 x.2.2)) AHF (a0,a1,a2)
theorem A5H (h:∀ (a0:aC) (a1:aI) (a2:ByteArray×ByteArray×bI×aY×bK×aM×bC) (r:T),AE0 (a0,a1,a2)=some r→(∀ t∈FM a0 a1 a2,Bd t)→AOR a0 a1 a2 (fun y=>y=r)):aN Tryz.prog 13 ASN :=
 cQ (E:=AMZ) (Hs:=A1I) AXI aT aW (aL rfl) 8 ⟨_,_,Tryz.func13,rfl⟩ fun x r h1 h2=>by
  rw[AOS]
  exact h x.1 x.2.1 x.2.2 r h1 h2
theorem A3P:aN Tryz.prog 13 ASN:=A5H fun d m x r h hb=>by
 clear hb
 obtain ⟨hp,rfl⟩:=lO h
 clear h
 obtain ⟨hc,ho1,ho2⟩:=mO hp
 have c:=dP hc
 have is:∀ {a:aC×Int},bH d m (7,x)=a→Sh.enc [(true,aE),(false,.int .i64)] a=Sh.enc [(true,aE),(false,.int .i64)] (bH d m (7,x)):=fun h=>by rw[h]
 have hk:(1:Int)≤((7,x):a8).1∧((7,x):a8).1≤12:=by dsimp only;omega
 have h5:¬ ((7,x):a8).1=5:=by dsimp only;omega
 have lift:∀ {a:aC×Int},bH d m (7,x)=a→∀ v,v=Sh.enc [(true,aE),(false,.int .i64)] a→v=Sh.enc [(true,aE),(false,.int .i64)] (bH d m (7,x)):=fun h v hv=>by rw[h];exact hv
 unfold AOR BDJ BDF BDB BDA BC9 BC7
 have z1:O0 [aH true aU (7,x)]=some (Sh.enc [(true,aU)] (bU (7,x))):=(ATA ..).trans rfl
 refine aF (s:=[(true,aU)]) (y:=bU (7,x)) z1 ?_
 have z2:cL [aH true aU (7,x),aH true aU (bU (7,x))]=some (Sh.enc mD (rB (7,x) (bU (7,x)))):=fT ..
 refine aF (s:=mD) (y:=rB (7,x) (bU (7,x))) z2 ?_
 refine fB (fun h=>lift (mI hk h) _ rfl) fun hE=>?_
 refine aF (s:=[(true,a7),(false,.bool)]) (y:=found gZ (wH d (oU (7,x)).1)) (O3 ..) ?_
 have ht:dG d (7,x)=(found gZ (wH d (oU (7,x)).1)).2:=(kN ..).symm
 have hus:kS d (7,x)=false:=rfl
 refine sZ (fun h=>lift (rH hk h5 hE rfl (ht.trans h)) _ rfl) fun h=>?_
 have hth:dG d (7,x) = !gP (7,x):=ht.trans h
 refine aF (s:=[(true,aE)]) (y:=d) ((iJ ..).trans (dN hc)) ?_
 have z3:OO [aH true aE d,aH true aU (7,x)]=some (Sh.enc [(true,aE)] (p8 d (7,x))):=(ASX ..).trans (dN hc)
 refine aF (s:=[(true,aE)]) (y:=p8 d (7,x)) z3 ?_
 refine aF (s:=[(false,.int .i64)]) (y:=lV (p8 d (7,x)) m) (iI ..) ?_
 exact jB (fun h=>lift ((eF hk h5 hE hth hus).trans (if_neg h)) _ rfl) fun h=>lift ((eF hk h5 hE hth hus).trans (if_pos h)) _ rfl
def FO (a0:aC) (a1:aI) (a2:ByteArray×ByteArray×bI×aY×bK×aM×bC):List T:=[aH true aE a0,aH true aK a1,aH true aU (9,a2)]
noncomputable def AM1:Env:=Env.of [(36,.pure cL),(188,.pure O2),(190,.pure zR),(38,.pure eO),(191,.pure OQ),(39,.pure dB)]
def A1K:FuncId→Hint:=fun _=>aX
theorem AXK:aR Tryz.prog AM1:=.cons jY (.cons A4D (.cons AF3 (.cons mL (.cons A3Y (.cons mK (.nil _))))))
def BDK(a2:ByteArray×ByteArray×bI×aY×bK×aM×bC):List T:=[T.v (.int .i64 9),T.v (.string a2.1), T.v (.string a2.2.1),T.v (.string a2.2.2.1.1), T.v (.int .i64 a2.2.2.1.2.1), T.v (.string a2.2.2.1.2.2),T.v (.string a2.2.2.2.1.1), T.v (.int .i64 a2.2.2.2.1.2.1), T.v (.int .i64 a2.2.2.2.1.2.2.1), T.v (.string a2.2.2.2.1.2.2.2.1), T.v (.string a2.2.2.2.1.2.2.2.2.1), T.v (.int .i64 a2.2.2.2.1.2.2.2.2.2.1), T.sl false (List.map aA.enc a2.2.2.2.1.2.2.2.2.2.2.1.1), T.sl false (List.map aA.li.enc a2.2.2.2.1.2.2.2.2.2.2.1.2), T.v (.string a2.2.2.2.1.2.2.2.2.2.2.2.1), T.v (.int .i64 a2.2.2.2.1.2.2.2.2.2.2.2.2.1), T.v (.int .i64 a2.2.2.2.1.2.2.2.2.2.2.2.2.2.1), T.v (.int .i64 a2.2.2.2.1.2.2.2.2.2.2.2.2.2.2.1.1), T.v (Value.int IntKind.i64 a2.2.2.2.1.2.2.2.2.2.2.2.2.2.2.1.2.1), T.v (Value.int IntKind.i64 a2.2.2.2.1.2.2.2.2.2.2.2.2.2.2.1.2.2), T.v (Value.int IntKind.i64 a2.2.2.2.1.2.2.2.2.2.2.2.2.2.2.2.1.1), T.v (Value.int IntKind.i64 a2.2.2.2.1.2.2.2.2.2.2.2.2.2.2.2.1.2.1), T.v (Value.int IntKind.i64 a2.2.2.2.1.2.2.2.2.2.2.2.2.2.2.2.1.2.2), T.v (.int .i64 a2.2.2.2.1.2.2.2.2.2.2.2.2.2.2.2.2), T.v (.string a2.2.2.2.2.1.1), T.v (.string a2.2.2.2.2.1.2.1), T.v (.string a2.2.2.2.2.1.2.2.1), T.v (.int .i64 a2.2.2.2.2.1.2.2.2.1), T.v (.int .i64 a2.2.2.2.2.1.2.2.2.2.1), T.v (.int .i64 a2.2.2.2.2.1.2.2.2.2.2), T.v (.string a2.2.2.2.2.2.1.1), T.v (.string a2.2.2.2.2.2.1.2.1), T.sl false (List.map Sy.str.enc a2.2.2.2.2.2.1.2.2.1), T.v (.int .i64 a2.2.2.2.2.2.1.2.2.2.1), T.sl false (List.map Sy.str.enc a2.2.2.2.2.2.1.2.2.2.2), T.v (.int .i64 a2.2.2.2.2.2.2.1), T.v (.string a2.2.2.2.2.2.2.2.1), T.v (.string a2.2.2.2.2.2.2.2.2)]
def AOV(a0:aC)(a1:aI)(a2:ByteArray×ByteArray×bI×aY×bK×aM×bC)(R:T→Prop):Prop:=aJ [(true,aU)] (O2 [T.agg (BDK a2)]) fun (y0:a8)=>aJ BDA (cL [T.agg (BDK a2), aH true aU y0]) fun (y1:Bool)=>aB (!y1) (R (T.cC BDB)) (aJ [(true,aG),(false,Sy.bool)] (zR [aH true aE a0,T.v (.string a2.2.2.2.2.2.1.1)]) fun (y2:aM×Bool)=>aB y2.2 (R (T.cC BDF)) (aJ [(true,aE)] (eO [aH true aE a0]) fun (y3:aC)=>aJ [(true,aE)] (OQ [aH true aE y3, T.agg [T.v (.int .i64 9),T.v (.string a2.1), T.v (.string a2.2.1),T.v (.string a2.2.2.1.1), T.v (.int .i64 a2.2.2.1.2.1), T.v (.string a2.2.2.1.2.2), T.v (.string a2.2.2.2.1.1), T.v (.int .i64 a2.2.2.2.1.2.1), T.v (.int .i64 a2.2.2.2.1.2.2.1), T.v (.string a2.2.2.2.1.2.2.2.1), T.v (.string a2.2.2.2.1.2.2.2.2.1), T.v (.int .i64 a2.2.2.2.1.2.2.2.2.2.1), T.sl false (List.map aA.enc a2.2.2.2.1.2.2.2.2.2.2.1.1), T.sl false (List.map aA.li.enc a2.2.2.2.1.2.2.2.2.2.2.1.2), T.v (.string a2.2.2.2.1.2.2.2.2.2.2.2.1), T.v (.int .i64 a2.2.2.2.1.2.2.2.2.2.2.2.2.1), T.v (Value.int IntKind.i64 a2.2.2.2.1.2.2.2.2.2.2.2.2.2.1), T.v (Value.int IntKind.i64 a2.2.2.2.1.2.2.2.2.2.2.2.2.2.2.1.1), T.v (Value.int IntKind.i64 a2.2.2.2.1.2.2.2.2.2.2.2.2.2.2.1.2.1), T.v (Value.int IntKind.i64 a2.2.2.2.1.2.2.2.2.2.2.2.2.2.2.1.2.2), T.v (Value.int IntKind.i64 a2.2.2.2.1.2.2.2.2.2.2.2.2.2.2.2.1.1), T.v (Value.int IntKind.i64 a2.2.2.2.1.2.2.2.2.2.2.2.2.2.2.2.1.2.1), T.v (Value.int IntKind.i64 a2.2.2.2.1.2.2.2.2.2.2.2.2.2.2.2.1.2.2), T.v (Value.int IntKind.i64 a2.2.2.2.1.2.2.2.2.2.2.2.2.2.2.2.2), T.v (.string a2.2.2.2.2.1.1), T.v (.string a2.2.2.2.2.1.2.1), T.v (.string a2.2.2.2.2.1.2.2.1), T.v (.int .i64 a2.2.2.2.2.1.2.2.2.1), T.v (.int .i64 a2.2.2.2.2.1.2.2.2.2.1), T.v (.int .i64 a2.2.2.2.2.1.2.2.2.2.2), T.v (.string a2.2.2.2.2.2.1.1), T.v (.string a2.2.2.2.2.2.1.2.1), T.sl false (List.map Sy.str.enc a2.2.2.2.2.2.1.2.2.1), T.v (.int .i64 a2.2.2.2.2.2.1.2.2.2.1), T.sl false (List.map Sy.str.enc a2.2.2.2.2.2.1.2.2.2.2), T.v (.int .i64 a2.2.2.2.2.2.2.1), T.v (.string a2.2.2.2.2.2.2.2.1), T.v (.string a2.2.2.2.2.2.2.2.2)]]) fun (y4:aC)=>aJ BC9 (dB [aH true aE y4,aH true aK a1]) fun (y5:Int)=>aB (!decide (y5=0)) (R (T.cC [T.agg BC7, T.v (.int .i64 y5)])) (R (T.cC [aH true aE y4,T.v (.int .i64 0)]))))
theorem AOW ( a0 a1 a2 R):dS bZ Tryz.prog AM1 A1K 8 13 (FO a0 a1 a2) R=AOV a0 a1 a2 R:=by kernel_rfl
noncomputable def AE2 (x:aC×aI×ByteArray×ByteArray×bI×aY×bK×aM×bC):Option T:=match okX x.1 (9,x.2.2) with
 | true=>some (Sh.enc [(true,aE),(false,.int .i64)] (bH x.1 x.2.1 (9,x.2.2)))
 | false=>none
theorem AHH (x y:aC×aI×ByteArray×ByteArray×bI×aY×bK×aM×bC) (h:FO x.1 x.2.1 x.2.2=FO y.1 y.2.1 y.2.2):x=y:=by
 simp only[FO,List.cons.injEq,and_true] at h
 obtain ⟨h1,h2,h3⟩:=h
 have e1:=bX (r:=aE) rfl h1
 have e2:=bX (r:=aK) rfl h2
 have e3:=(Prod.mk.inj (bX (r:=aU) rfl h3)).2
 exact Prod.ext e1 (Prod.ext e2 e3)
noncomputable def ASR:List T→Option (T):=gA (fun (x:aC×aI×ByteArray×ByteArray×bI×aY×bK×aM×bC)=>FO x.1 x.2.1 x.2.2) AE2
theorem ASS (a0:aC) (a1:aI) (a2:ByteArray×ByteArray×bI×aY×bK×aM×bC):ASR (FO a0 a1 a2)=AE2 (a0,a1,a2):=e8 (A:=(fun (x:aC×aI×ByteArray×ByteArray×bI×aY×bK×aM×bC)=>FO x.1 x.2.1 x.2.2)) AHH (a0,a1,a2)
theorem A5J (h:∀ (a0:aC) (a1:aI) (a2:ByteArray×ByteArray×bI×aY×bK×aM×bC) (r:T),AE2 (a0,a1,a2)=some r→(∀ t∈FO a0 a1 a2,Bd t)→AOV a0 a1 a2 (fun y=>y=r)):aN Tryz.prog 13 ASR :=
 cQ (E:=AM1) (Hs:=A1K) AXK aT aW (aL rfl) 8 ⟨_,_,Tryz.func13,rfl⟩ fun x r h1 h2=>by
  rw[AOW]
  exact h x.1 x.2.1 x.2.2 r h1 h2
theorem A3R:aN Tryz.prog 13 ASR:=A5J fun d m x r h hb=>by
 clear hb
 obtain ⟨hp,rfl⟩:=lO h
 clear h
 obtain ⟨hc,ho1,ho2⟩:=mO hp
 have c:=dP hc
 have is:∀ {a:aC×Int},bH d m (9,x)=a→Sh.enc [(true,aE),(false,.int .i64)] a=Sh.enc [(true,aE),(false,.int .i64)] (bH d m (9,x)):=fun h=>by rw[h]
 have hk:(1:Int)≤((9,x):a8).1∧((9,x):a8).1≤12:=by dsimp only;omega
 have h5:¬ ((9,x):a8).1=5:=by dsimp only;omega
 have lift:∀ {a:aC×Int},bH d m (9,x)=a→∀ v,v=Sh.enc [(true,aE),(false,.int .i64)] a→v=Sh.enc [(true,aE),(false,.int .i64)] (bH d m (9,x)):=fun h v hv=>by rw[h];exact hv
 unfold AOV BDK BDF BDB BDA BC9 BC7
 have z1:O2 [aH true aU (9,x)]=some (Sh.enc [(true,aU)] (bU (9,x))):=(ATC ..).trans rfl
 refine aF (s:=[(true,aU)]) (y:=bU (9,x)) z1 ?_
 have z2:cL [aH true aU (9,x),aH true aU (bU (9,x))]=some (Sh.enc mD (rB (9,x) (bU (9,x)))):=fT ..
 refine aF (s:=mD) (y:=rB (9,x) (bU (9,x))) z2 ?_
 refine fB (fun h=>lift (mI hk h) _ rfl) fun hE=>?_
 refine aF (s:=[(true,aG),(false,.bool)]) (y:=found noPack (lP d (jO (9,x)).1)) ((OT ..).trans (YR _ c.YN)) ?_
 have ht:dG d (9,x)=(found noPack (lP d (jO (9,x)).1)).2:=(kN ..).symm
 have hus:kS d (9,x)=false:=rfl
 refine sZ (fun h=>lift (rH hk h5 hE rfl (ht.trans h)) _ rfl) fun h=>?_
 have hth:dG d (9,x) = !gP (9,x):=ht.trans h
 refine aF (s:=[(true,aE)]) (y:=d) ((iJ ..).trans (dN hc)) ?_
 have z3:OQ [aH true aE d,aH true aU (9,x)]=some (Sh.enc [(true,aE)] (p8 d (9,x))):=(ASZ ..).trans (dN (by rw[hc,ho2];rfl))
 refine aF (s:=[(true,aE)]) (y:=p8 d (9,x)) z3 ?_
 refine aF (s:=[(false,.int .i64)]) (y:=lV (p8 d (9,x)) m) (iI ..) ?_
 exact jB (fun h=>lift ((eF hk h5 hE hth hus).trans (if_neg h)) _ rfl) fun h=>lift ((eF hk h5 hE hth hus).trans (if_pos h)) _ rfl
def FJ (a0:aC) (a1:aI) (a2:ByteArray×ByteArray×bI×aY×bK×aM×bC):List T:=[aH true aE a0,aH true aK a1,aH true aU (2,a2)]
noncomputable def AMW:Env:=Env.of [(36,.pure cL),(128,.pure OX),(122,.pure zQ),(111,.pure wX),(38,.pure eO),(130,.pure OL),(39,.pure dB)]
def A1F:FuncId→Hint:=fun _=>aX
theorem AXF:aR Tryz.prog AMW:=.cons jY (.cons A38 (.cons AF2 (.cons ASA (.cons mL (.cons A3T (.cons mK (.nil _)))))))
def BDL(a2:ByteArray×ByteArray×bI×aY×bK×aM×bC):List T:=[T.v (.int .i64 2),T.v (.string a2.1), T.v (.string a2.2.1),T.v (.string a2.2.2.1.1), T.v (.int .i64 a2.2.2.1.2.1), T.v (.string a2.2.2.1.2.2),T.v (.string a2.2.2.2.1.1), T.v (.int .i64 a2.2.2.2.1.2.1), T.v (.int .i64 a2.2.2.2.1.2.2.1), T.v (.string a2.2.2.2.1.2.2.2.1), T.v (.string a2.2.2.2.1.2.2.2.2.1), T.v (.int .i64 a2.2.2.2.1.2.2.2.2.2.1), T.sl false (List.map aA.enc a2.2.2.2.1.2.2.2.2.2.2.1.1), T.sl false (List.map aA.li.enc a2.2.2.2.1.2.2.2.2.2.2.1.2), T.v (.string a2.2.2.2.1.2.2.2.2.2.2.2.1), T.v (.int .i64 a2.2.2.2.1.2.2.2.2.2.2.2.2.1), T.v (.int .i64 a2.2.2.2.1.2.2.2.2.2.2.2.2.2.1), T.v (.int .i64 a2.2.2.2.1.2.2.2.2.2.2.2.2.2.2.1.1), T.v (Value.int IntKind.i64 a2.2.2.2.1.2.2.2.2.2.2.2.2.2.2.1.2.1), T.v (Value.int IntKind.i64 a2.2.2.2.1.2.2.2.2.2.2.2.2.2.2.1.2.2), T.v (Value.int IntKind.i64 a2.2.2.2.1.2.2.2.2.2.2.2.2.2.2.2.1.1), T.v (Value.int IntKind.i64 a2.2.2.2.1.2.2.2.2.2.2.2.2.2.2.2.1.2.1), T.v (Value.int IntKind.i64 a2.2.2.2.1.2.2.2.2.2.2.2.2.2.2.2.1.2.2), T.v (.int .i64 a2.2.2.2.1.2.2.2.2.2.2.2.2.2.2.2.2), T.v (.string a2.2.2.2.2.1.1), T.v (.string a2.2.2.2.2.1.2.1), T.v (.string a2.2.2.2.2.1.2.2.1), T.v (.int .i64 a2.2.2.2.2.1.2.2.2.1), T.v (.int .i64 a2.2.2.2.2.1.2.2.2.2.1), T.v (.int .i64 a2.2.2.2.2.1.2.2.2.2.2), T.v (.string a2.2.2.2.2.2.1.1), T.v (.string a2.2.2.2.2.2.1.2.1), T.sl false (List.map Sy.str.enc a2.2.2.2.2.2.1.2.2.1), T.v (.int .i64 a2.2.2.2.2.2.1.2.2.2.1), T.sl false (List.map Sy.str.enc a2.2.2.2.2.2.1.2.2.2.2), T.v (.int .i64 a2.2.2.2.2.2.2.1), T.v (.string a2.2.2.2.2.2.2.2.1), T.v (.string a2.2.2.2.2.2.2.2.2)]
def AOL(a0:aC)(a1:aI)(a2:ByteArray×ByteArray×bI×aY×bK×aM×bC)(R:T→Prop):Prop:=aJ [(true,aU)] (OX [T.agg (BDL a2)]) fun (y0:a8)=>aJ BDA (cL [T.agg (BDL a2), aH true aU y0]) fun (y1:Bool)=>aB (!y1) (R (T.cC BDB)) (aJ [(true,aZ),(false,Sy.bool)] (zQ [aH true aE a0,T.v (.string a2.1)]) fun (y2:bI×Bool)=>aB (!y2.2) (R (T.cC BDD)) (aJ BDA (wX [aH true aE a0, T.agg [T.v (.int .i64 2),T.v (.string a2.1), T.v (.string a2.2.1),T.v (.string a2.2.2.1.1), T.v (.int .i64 a2.2.2.1.2.1), T.v (.string a2.2.2.1.2.2), T.v (.string a2.2.2.2.1.1), T.v (.int .i64 a2.2.2.2.1.2.1), T.v (.int .i64 a2.2.2.2.1.2.2.1), T.v (.string a2.2.2.2.1.2.2.2.1), T.v (.string a2.2.2.2.1.2.2.2.2.1), T.v (.int .i64 a2.2.2.2.1.2.2.2.2.2.1), T.sl false (List.map aA.enc a2.2.2.2.1.2.2.2.2.2.2.1.1), T.sl false (List.map aA.li.enc a2.2.2.2.1.2.2.2.2.2.2.1.2), T.v (.string a2.2.2.2.1.2.2.2.2.2.2.2.1), T.v (.int .i64 a2.2.2.2.1.2.2.2.2.2.2.2.2.1), T.v (.int .i64 a2.2.2.2.1.2.2.2.2.2.2.2.2.2.1), T.v (Value.int IntKind.i64 a2.2.2.2.1.2.2.2.2.2.2.2.2.2.2.1.1), T.v (Value.int IntKind.i64 a2.2.2.2.1.2.2.2.2.2.2.2.2.2.2.1.2.1), T.v (Value.int IntKind.i64 a2.2.2.2.1.2.2.2.2.2.2.2.2.2.2.1.2.2), T.v (Value.int IntKind.i64 a2.2.2.2.1.2.2.2.2.2.2.2.2.2.2.2.1.1), T.v (Value.int IntKind.i64 a2.2.2.2.1.2.2.2.2.2.2.2.2.2.2.2.1.2.1), T.v (Value.int IntKind.i64 a2.2.2.2.1.2.2.2.2.2.2.2.2.2.2.2.1.2.2), T.v (Value.int IntKind.i64 a2.2.2.2.1.2.2.2.2.2.2.2.2.2.2.2.2), T.v (.string a2.2.2.2.2.1.1), T.v (.string a2.2.2.2.2.1.2.1), T.v (.string a2.2.2.2.2.1.2.2.1), T.v (.int .i64 a2.2.2.2.2.1.2.2.2.1), T.v (.int .i64 a2.2.2.2.2.1.2.2.2.2.1), T.v (.int .i64 a2.2.2.2.2.1.2.2.2.2.2), T.v (.string a2.2.2.2.2.2.1.1), T.v (.string a2.2.2.2.2.2.1.2.1), T.sl false (List.map Sy.str.enc a2.2.2.2.2.2.1.2.2.1), T.v (.int .i64 a2.2.2.2.2.2.1.2.2.2.1), T.sl false (List.map Sy.str.enc a2.2.2.2.2.2.1.2.2.2.2), T.v (.int .i64 a2.2.2.2.2.2.2.1), T.v (.string a2.2.2.2.2.2.2.2.1), T.v (.string a2.2.2.2.2.2.2.2.2)]]) fun (y3:Bool)=>aB y3 (R (T.cC BDE)) (aJ [(true,aE)] (eO [aH true aE a0]) fun (y4:aC)=>aJ [(true,aE)] (OL [aH true aE y4, T.agg [T.v (.int .i64 2),T.v (.string a2.1), T.v (.string a2.2.1),T.v (.string a2.2.2.1.1), T.v (.int .i64 a2.2.2.1.2.1), T.v (.string a2.2.2.1.2.2), T.v (.string a2.2.2.2.1.1), T.v (.int .i64 a2.2.2.2.1.2.1), T.v (.int .i64 a2.2.2.2.1.2.2.1), T.v (.string a2.2.2.2.1.2.2.2.1), T.v (.string a2.2.2.2.1.2.2.2.2.1), T.v (.int .i64 a2.2.2.2.1.2.2.2.2.2.1), T.sl false (List.map aA.enc a2.2.2.2.1.2.2.2.2.2.2.1.1), T.sl false (List.map aA.li.enc a2.2.2.2.1.2.2.2.2.2.2.1.2), T.v (.string a2.2.2.2.1.2.2.2.2.2.2.2.1), T.v (Value.int IntKind.i64 a2.2.2.2.1.2.2.2.2.2.2.2.2.1), T.v (Value.int IntKind.i64 a2.2.2.2.1.2.2.2.2.2.2.2.2.2.1), T.v (Value.int IntKind.i64 a2.2.2.2.1.2.2.2.2.2.2.2.2.2.2.1.1), T.v (Value.int IntKind.i64 a2.2.2.2.1.2.2.2.2.2.2.2.2.2.2.1.2.1), T.v (Value.int IntKind.i64 a2.2.2.2.1.2.2.2.2.2.2.2.2.2.2.1.2.2), T.v (Value.int IntKind.i64 a2.2.2.2.1.2.2.2.2.2.2.2.2.2.2.2.1.1), T.v (Value.int IntKind.i64 a2.2.2.2.1.2.2.2.2.2.2.2.2.2.2.2.1.2.1), T.v (Value.int IntKind.i64 a2.2.2.2.1.2.2.2.2.2.2.2.2.2.2.2.1.2.2), T.v (Value.int IntKind.i64 a2.2.2.2.1.2.2.2.2.2.2.2.2.2.2.2.2), T.v (.string a2.2.2.2.2.1.1), T.v (.string a2.2.2.2.2.1.2.1), T.v (.string a2.2.2.2.2.1.2.2.1), T.v (.int .i64 a2.2.2.2.2.1.2.2.2.1), T.v (.int .i64 a2.2.2.2.2.1.2.2.2.2.1), T.v (.int .i64 a2.2.2.2.2.1.2.2.2.2.2), T.v (.string a2.2.2.2.2.2.1.1), T.v (.string a2.2.2.2.2.2.1.2.1), T.sl false (List.map Sy.str.enc a2.2.2.2.2.2.1.2.2.1), T.v (.int .i64 a2.2.2.2.2.2.1.2.2.2.1), T.sl false (List.map Sy.str.enc a2.2.2.2.2.2.1.2.2.2.2), T.v (.int .i64 a2.2.2.2.2.2.2.1), T.v (.string a2.2.2.2.2.2.2.2.1), T.v (.string a2.2.2.2.2.2.2.2.2)]]) fun (y5:aC)=>aJ BC9 (dB [aH true aE y5,aH true aK a1]) fun (y6:Int)=>aB (!decide (y6=0)) (R (T.cC [T.agg BC7, T.v (.int .i64 y6)])) (R (T.cC [aH true aE y5,T.v (.int .i64 0)])))))
theorem AOM ( a0 a1 a2 R):dS bZ Tryz.prog AMW A1F 8 13 (FJ a0 a1 a2) R=AOL a0 a1 a2 R:=by kernel_rfl
noncomputable def AEX (x:aC×aI×ByteArray×ByteArray×bI×aY×bK×aM×bC):Option T:=match okX x.1 (2,x.2.2) with
 | true=>some (Sh.enc [(true,aE),(false,.int .i64)] (bH x.1 x.2.1 (2,x.2.2)))
 | false=>none
theorem AHC (x y:aC×aI×ByteArray×ByteArray×bI×aY×bK×aM×bC) (h:FJ x.1 x.2.1 x.2.2=FJ y.1 y.2.1 y.2.2):x=y:=by
 simp only[FJ,List.cons.injEq,and_true] at h
 obtain ⟨h1,h2,h3⟩:=h
 have e1:=bX (r:=aE) rfl h1
 have e2:=bX (r:=aK) rfl h2
 have e3:=(Prod.mk.inj (bX (r:=aU) rfl h3)).2
 exact Prod.ext e1 (Prod.ext e2 e3)
noncomputable def ASH:List T→Option (T):=gA (fun (x:aC×aI×ByteArray×ByteArray×bI×aY×bK×aM×bC)=>FJ x.1 x.2.1 x.2.2) AEX
theorem ASI (a0:aC) (a1:aI) (a2:ByteArray×ByteArray×bI×aY×bK×aM×bC):ASH (FJ a0 a1 a2)=AEX (a0,a1,a2):=e8 (A:=(fun (x:aC×aI×ByteArray×ByteArray×bI×aY×bK×aM×bC)=>FJ x.1 x.2.1 x.2.2)) AHC (a0,a1,a2)
theorem A5E (h:∀ (a0:aC) (a1:aI) (a2:ByteArray×ByteArray×bI×aY×bK×aM×bC) (r:T),AEX (a0,a1,a2)=some r→(∀ t∈FJ a0 a1 a2,Bd t)→AOL a0 a1 a2 (fun y=>y=r)):aN Tryz.prog 13 ASH :=
 cQ (E:=AMW) (Hs:=A1F) AXF aT aW (aL rfl) 8 ⟨_,_,Tryz.func13,rfl⟩ fun x r h1 h2=>by
  rw[AOM]
  exact h x.1 x.2.1 x.2.2 r h1 h2
theorem A3M:aN Tryz.prog 13 ASH:=A5E fun d m x r h hb=>by
 clear hb
 obtain ⟨hp,rfl⟩:=lO h
 clear h
 obtain ⟨hc,ho1,ho2⟩:=mO hp
 have c:=dP hc
 have is:∀ {a:aC×Int},bH d m (2,x)=a→Sh.enc [(true,aE),(false,.int .i64)] a=Sh.enc [(true,aE),(false,.int .i64)] (bH d m (2,x)):=fun h=>by rw[h]
 have hk:(1:Int)≤((2,x):a8).1∧((2,x):a8).1≤12:=by dsimp only;omega
 have h5:¬ ((2,x):a8).1=5:=by dsimp only;omega
 have lift:∀ {a:aC×Int},bH d m (2,x)=a→∀ v,v=Sh.enc [(true,aE),(false,.int .i64)] a→v=Sh.enc [(true,aE),(false,.int .i64)] (bH d m (2,x)):=fun h v hv=>by rw[h];exact hv
 unfold AOL BDL BDE BDD BDB BDA BC9 BC7
 have z1:OX [aH true aU (2,x)]=some (Sh.enc [(true,aU)] (bU (2,x))):=(AS7 ..).trans rfl
 refine aF (s:=[(true,aU)]) (y:=bU (2,x)) z1 ?_
 have z2:cL [aH true aU (2,x),aH true aU (bU (2,x))]=some (Sh.enc mD (rB (2,x) (bU (2,x)))):=fT ..
 refine aF (s:=mD) (y:=rB (2,x) (bU (2,x))) z2 ?_
 refine fB (fun h=>lift (mI hk h) _ rfl) fun hE=>?_
 refine aF (s:=[(true,aZ),(false,.bool)]) (y:=found gY (fW d (fQ (2,x)))) (OS ..) ?_
 have ht:dG d (2,x)=(found gY (fW d (fQ (2,x)))).2:=(kN ..).symm
 refine fB (fun h=>lift (uS hk h5 hE rfl (ht.trans h)) _ rfl) fun h=>?_
 have hth:dG d (2,x) = !gP (2,x):=ht.trans h
 have z4:wX [aH true aE d,aH true aU (2,x)]=some (Sh.enc mD (kS d (2,x))):=(ADE ..).trans (dN hc)
 refine aF (s:=mD) (y:=kS d (2,x)) z4 ?_
 refine sZ (fun h=>lift (AO hk h5 hE hth h) _ rfl) fun hus=>?_
 refine aF (s:=[(true,aE)]) (y:=d) ((iJ ..).trans (dN hc)) ?_
 have z3:OL [aH true aE d,aH true aU (2,x)]=some (Sh.enc [(true,aE)] (p8 d (2,x))):=(ASU ..).trans (dN hc)
 refine aF (s:=[(true,aE)]) (y:=p8 d (2,x)) z3 ?_
 refine aF (s:=[(false,.int .i64)]) (y:=lV (p8 d (2,x)) m) (iI ..) ?_
 exact jB (fun h=>lift ((eF hk h5 hE hth hus).trans (if_neg h)) _ rfl) fun h=>lift ((eF hk h5 hE hth hus).trans (if_pos h)) _ rfl
def FL (a0:aC) (a1:aI) (a2:ByteArray×ByteArray×bI×aY×bK×aM×bC):List T:=[aH true aE a0,aH true aK a1,aH true aU (4,a2)]
noncomputable def AMY:Env:=Env.of [(36,.pure cL),(147,.pure OZ),(37,.pure sR),(135,.pure wZ),(38,.pure eO),(149,.pure ON),(39,.pure dB)]
def A1H:FuncId→Hint:=fun _=>aX
theorem AXH:aR Tryz.prog AMY:=.cons jY (.cons A4A (.cons V7 (.cons ASC (.cons mL (.cons A3V (.cons mK (.nil _)))))))
def BDM(a2:ByteArray×ByteArray×bI×aY×bK×aM×bC):List T:=[T.v (.int .i64 4),T.v (.string a2.1), T.v (.string a2.2.1),T.v (.string a2.2.2.1.1), T.v (.int .i64 a2.2.2.1.2.1), T.v (.string a2.2.2.1.2.2),T.v (.string a2.2.2.2.1.1), T.v (.int .i64 a2.2.2.2.1.2.1), T.v (.int .i64 a2.2.2.2.1.2.2.1), T.v (.string a2.2.2.2.1.2.2.2.1), T.v (.string a2.2.2.2.1.2.2.2.2.1), T.v (.int .i64 a2.2.2.2.1.2.2.2.2.2.1), T.sl false (List.map aA.enc a2.2.2.2.1.2.2.2.2.2.2.1.1), T.sl false (List.map aA.li.enc a2.2.2.2.1.2.2.2.2.2.2.1.2), T.v (.string a2.2.2.2.1.2.2.2.2.2.2.2.1), T.v (.int .i64 a2.2.2.2.1.2.2.2.2.2.2.2.2.1), T.v (.int .i64 a2.2.2.2.1.2.2.2.2.2.2.2.2.2.1), T.v (.int .i64 a2.2.2.2.1.2.2.2.2.2.2.2.2.2.2.1.1), T.v (Value.int IntKind.i64 a2.2.2.2.1.2.2.2.2.2.2.2.2.2.2.1.2.1), T.v (Value.int IntKind.i64 a2.2.2.2.1.2.2.2.2.2.2.2.2.2.2.1.2.2), T.v (Value.int IntKind.i64 a2.2.2.2.1.2.2.2.2.2.2.2.2.2.2.2.1.1), T.v (Value.int IntKind.i64 a2.2.2.2.1.2.2.2.2.2.2.2.2.2.2.2.1.2.1), T.v (Value.int IntKind.i64 a2.2.2.2.1.2.2.2.2.2.2.2.2.2.2.2.1.2.2), T.v (.int .i64 a2.2.2.2.1.2.2.2.2.2.2.2.2.2.2.2.2), T.v (.string a2.2.2.2.2.1.1), T.v (.string a2.2.2.2.2.1.2.1), T.v (.string a2.2.2.2.2.1.2.2.1), T.v (.int .i64 a2.2.2.2.2.1.2.2.2.1), T.v (.int .i64 a2.2.2.2.2.1.2.2.2.2.1), T.v (.int .i64 a2.2.2.2.2.1.2.2.2.2.2), T.v (.string a2.2.2.2.2.2.1.1), T.v (.string a2.2.2.2.2.2.1.2.1), T.sl false (List.map Sy.str.enc a2.2.2.2.2.2.1.2.2.1), T.v (.int .i64 a2.2.2.2.2.2.1.2.2.2.1), T.sl false (List.map Sy.str.enc a2.2.2.2.2.2.1.2.2.2.2), T.v (.int .i64 a2.2.2.2.2.2.2.1), T.v (.string a2.2.2.2.2.2.2.2.1), T.v (.string a2.2.2.2.2.2.2.2.2)]
def AOP(a0:aC)(a1:aI)(a2:ByteArray×ByteArray×bI×aY×bK×aM×bC)(R:T→Prop):Prop:=aJ [(true,aU)] (OZ [T.agg (BDM a2)]) fun (y0:a8)=>aJ BDA (cL [T.agg (BDM a2), aH true aU y0]) fun (y1:Bool)=>aB (!y1) (R (T.cC BDB)) (aJ [(true,aO),(false,Sy.bool)] (sR [aH true aE a0,T.v (.string a2.1)]) fun (y2:aY×Bool)=>aB (!y2.2) (R (T.cC BDD)) (aJ BDA (wZ [aH true aE a0, T.agg [T.v (.int .i64 4),T.v (.string a2.1), T.v (.string a2.2.1),T.v (.string a2.2.2.1.1), T.v (.int .i64 a2.2.2.1.2.1), T.v (.string a2.2.2.1.2.2), T.v (.string a2.2.2.2.1.1), T.v (.int .i64 a2.2.2.2.1.2.1), T.v (.int .i64 a2.2.2.2.1.2.2.1), T.v (.string a2.2.2.2.1.2.2.2.1), T.v (.string a2.2.2.2.1.2.2.2.2.1), T.v (.int .i64 a2.2.2.2.1.2.2.2.2.2.1), T.sl false (List.map aA.enc a2.2.2.2.1.2.2.2.2.2.2.1.1), T.sl false (List.map aA.li.enc a2.2.2.2.1.2.2.2.2.2.2.1.2), T.v (.string a2.2.2.2.1.2.2.2.2.2.2.2.1), T.v (.int .i64 a2.2.2.2.1.2.2.2.2.2.2.2.2.1), T.v (.int .i64 a2.2.2.2.1.2.2.2.2.2.2.2.2.2.1), T.v (Value.int IntKind.i64 a2.2.2.2.1.2.2.2.2.2.2.2.2.2.2.1.1), T.v (Value.int IntKind.i64 a2.2.2.2.1.2.2.2.2.2.2.2.2.2.2.1.2.1), T.v (Value.int IntKind.i64 a2.2.2.2.1.2.2.2.2.2.2.2.2.2.2.1.2.2), T.v (Value.int IntKind.i64 a2.2.2.2.1.2.2.2.2.2.2.2.2.2.2.2.1.1), T.v (Value.int IntKind.i64 a2.2.2.2.1.2.2.2.2.2.2.2.2.2.2.2.1.2.1), T.v (Value.int IntKind.i64 a2.2.2.2.1.2.2.2.2.2.2.2.2.2.2.2.1.2.2), T.v (Value.int IntKind.i64 a2.2.2.2.1.2.2.2.2.2.2.2.2.2.2.2.2), T.v (.string a2.2.2.2.2.1.1), T.v (.string a2.2.2.2.2.1.2.1), T.v (.string a2.2.2.2.2.1.2.2.1), T.v (.int .i64 a2.2.2.2.2.1.2.2.2.1), T.v (.int .i64 a2.2.2.2.2.1.2.2.2.2.1), T.v (.int .i64 a2.2.2.2.2.1.2.2.2.2.2), T.v (.string a2.2.2.2.2.2.1.1), T.v (.string a2.2.2.2.2.2.1.2.1), T.sl false (List.map Sy.str.enc a2.2.2.2.2.2.1.2.2.1), T.v (.int .i64 a2.2.2.2.2.2.1.2.2.2.1), T.sl false (List.map Sy.str.enc a2.2.2.2.2.2.1.2.2.2.2), T.v (.int .i64 a2.2.2.2.2.2.2.1), T.v (.string a2.2.2.2.2.2.2.2.1), T.v (.string a2.2.2.2.2.2.2.2.2)]]) fun (y3:Bool)=>aB y3 (R (T.cC BDE)) (aJ [(true,aE)] (eO [aH true aE a0]) fun (y4:aC)=>aJ [(true,aE)] (ON [aH true aE y4, T.agg [T.v (.int .i64 4),T.v (.string a2.1), T.v (.string a2.2.1),T.v (.string a2.2.2.1.1), T.v (.int .i64 a2.2.2.1.2.1), T.v (.string a2.2.2.1.2.2), T.v (.string a2.2.2.2.1.1), T.v (.int .i64 a2.2.2.2.1.2.1), T.v (.int .i64 a2.2.2.2.1.2.2.1), T.v (.string a2.2.2.2.1.2.2.2.1), T.v (.string a2.2.2.2.1.2.2.2.2.1), T.v (.int .i64 a2.2.2.2.1.2.2.2.2.2.1), T.sl false (List.map aA.enc a2.2.2.2.1.2.2.2.2.2.2.1.1), T.sl false (List.map aA.li.enc a2.2.2.2.1.2.2.2.2.2.2.1.2), T.v (.string a2.2.2.2.1.2.2.2.2.2.2.2.1), T.v (Value.int IntKind.i64 a2.2.2.2.1.2.2.2.2.2.2.2.2.1), T.v (Value.int IntKind.i64 a2.2.2.2.1.2.2.2.2.2.2.2.2.2.1), T.v (Value.int IntKind.i64 a2.2.2.2.1.2.2.2.2.2.2.2.2.2.2.1.1), T.v (Value.int IntKind.i64 a2.2.2.2.1.2.2.2.2.2.2.2.2.2.2.1.2.1), T.v (Value.int IntKind.i64 a2.2.2.2.1.2.2.2.2.2.2.2.2.2.2.1.2.2), T.v (Value.int IntKind.i64 a2.2.2.2.1.2.2.2.2.2.2.2.2.2.2.2.1.1), T.v (Value.int IntKind.i64 a2.2.2.2.1.2.2.2.2.2.2.2.2.2.2.2.1.2.1), T.v (Value.int IntKind.i64 a2.2.2.2.1.2.2.2.2.2.2.2.2.2.2.2.1.2.2), T.v (Value.int IntKind.i64 a2.2.2.2.1.2.2.2.2.2.2.2.2.2.2.2.2), T.v (.string a2.2.2.2.2.1.1), T.v (.string a2.2.2.2.2.1.2.1), T.v (.string a2.2.2.2.2.1.2.2.1), T.v (.int .i64 a2.2.2.2.2.1.2.2.2.1), T.v (.int .i64 a2.2.2.2.2.1.2.2.2.2.1), T.v (.int .i64 a2.2.2.2.2.1.2.2.2.2.2), T.v (.string a2.2.2.2.2.2.1.1), T.v (.string a2.2.2.2.2.2.1.2.1), T.sl false (List.map Sy.str.enc a2.2.2.2.2.2.1.2.2.1), T.v (.int .i64 a2.2.2.2.2.2.1.2.2.2.1), T.sl false (List.map Sy.str.enc a2.2.2.2.2.2.1.2.2.2.2), T.v (.int .i64 a2.2.2.2.2.2.2.1), T.v (.string a2.2.2.2.2.2.2.2.1), T.v (.string a2.2.2.2.2.2.2.2.2)]]) fun (y5:aC)=>aJ BC9 (dB [aH true aE y5,aH true aK a1]) fun (y6:Int)=>aB (!decide (y6=0)) (R (T.cC [T.agg BC7, T.v (.int .i64 y6)])) (R (T.cC [aH true aE y5,T.v (.int .i64 0)])))))
theorem AOQ ( a0 a1 a2 R):dS bZ Tryz.prog AMY A1H 8 13 (FL a0 a1 a2) R=AOP a0 a1 a2 R:=by kernel_rfl
noncomputable def AEZ (x:aC×aI×ByteArray×ByteArray×bI×aY×bK×aM×bC):Option T:=match okX x.1 (4,x.2.2) with
 | true=>some (Sh.enc [(true,aE),(false,.int .i64)] (bH x.1 x.2.1 (4,x.2.2)))
 | false=>none
theorem AHE (x y:aC×aI×ByteArray×ByteArray×bI×aY×bK×aM×bC) (h:FL x.1 x.2.1 x.2.2=FL y.1 y.2.1 y.2.2):x=y:=by
 simp only[FL,List.cons.injEq,and_true] at h
 obtain ⟨h1,h2,h3⟩:=h
 have e1:=bX (r:=aE) rfl h1
 have e2:=bX (r:=aK) rfl h2
 have e3:=(Prod.mk.inj (bX (r:=aU) rfl h3)).2
 exact Prod.ext e1 (Prod.ext e2 e3)
noncomputable def ASL:List T→Option (T):=gA (fun (x:aC×aI×ByteArray×ByteArray×bI×aY×bK×aM×bC)=>FL x.1 x.2.1 x.2.2) AEZ
theorem ASM (a0:aC) (a1:aI) (a2:ByteArray×ByteArray×bI×aY×bK×aM×bC):ASL (FL a0 a1 a2)=AEZ (a0,a1,a2):=e8 (A:=(fun (x:aC×aI×ByteArray×ByteArray×bI×aY×bK×aM×bC)=>FL x.1 x.2.1 x.2.2)) AHE (a0,a1,a2)
theorem A5G (h:∀ (a0:aC) (a1:aI) (a2:ByteArray×ByteArray×bI×aY×bK×aM×bC) (r:T),AEZ (a0,a1,a2)=some r→(∀ t∈FL a0 a1 a2,Bd t)→AOP a0 a1 a2 (fun y=>y=r)):aN Tryz.prog 13 ASL :=
 cQ (E:=AMY) (Hs:=A1H) AXH aT aW (aL rfl) 8 ⟨_,_,Tryz.func13,rfl⟩ fun x r h1 h2=>by
  rw[AOQ]
  exact h x.1 x.2.1 x.2.2 r h1 h2
theorem A3O:aN Tryz.prog 13 ASL:=A5G fun d m x r h hb=>by
 clear hb
 obtain ⟨hp,rfl⟩:=lO h
 clear h
 obtain ⟨hc,ho1,ho2⟩:=mO hp
 have c:=dP hc
 have is:∀ {a:aC×Int},bH d m (4,x)=a→Sh.enc [(true,aE),(false,.int .i64)] a=Sh.enc [(true,aE),(false,.int .i64)] (bH d m (4,x)):=fun h=>by rw[h]
 have hk:(1:Int)≤((4,x):a8).1∧((4,x):a8).1≤12:=by dsimp only;omega
 have h5:¬ ((4,x):a8).1=5:=by dsimp only;omega
 have lift:∀ {a:aC×Int},bH d m (4,x)=a→∀ v,v=Sh.enc [(true,aE),(false,.int .i64)] a→v=Sh.enc [(true,aE),(false,.int .i64)] (bH d m (4,x)):=fun h v hv=>by rw[h];exact hv
 unfold AOP BDM BDE BDD BDB BDA BC9 BC7
 have z1:OZ [aH true aU (4,x)]=some (Sh.enc [(true,aU)] (bU (4,x))):=(AS9 ..).trans rfl
 refine aF (s:=[(true,aU)]) (y:=bU (4,x)) z1 ?_
 have z2:cL [aH true aU (4,x),aH true aU (bU (4,x))]=some (Sh.enc mD (rB (4,x) (bU (4,x)))):=fT ..
 refine aF (s:=mD) (y:=rB (4,x) (bU (4,x))) z2 ?_
 refine fB (fun h=>lift (mI hk h) _ rfl) fun hE=>?_
 refine aF (s:=[(true,aO),(false,.bool)]) (y:=found fV (partOf d (fQ (4,x)))) ((KU ..).trans (by unfold pE;dsimp only;rw[c.okD];rfl)) ?_
 have ht:dG d (4,x)=(found fV (partOf d (fQ (4,x)))).2:=(kN ..).symm
 refine fB (fun h=>lift (uS hk h5 hE rfl (ht.trans h)) _ rfl) fun h=>?_
 have hth:dG d (4,x) = !gP (4,x):=ht.trans h
 have z4:wZ [aH true aE d,aH true aU (4,x)]=some (Sh.enc mD (kS d (4,x))):=(ADG ..).trans (dN hc)
 refine aF (s:=mD) (y:=kS d (4,x)) z4 ?_
 refine sZ (fun h=>lift (AO hk h5 hE hth h) _ rfl) fun hus=>?_
 refine aF (s:=[(true,aE)]) (y:=d) ((iJ ..).trans (dN hc)) ?_
 have z3:ON [aH true aE d,aH true aU (4,x)]=some (Sh.enc [(true,aE)] (p8 d (4,x))):=(ASW ..).trans (dN hc)
 refine aF (s:=[(true,aE)]) (y:=p8 d (4,x)) z3 ?_
 refine aF (s:=[(false,.int .i64)]) (y:=lV (p8 d (4,x)) m) (iI ..) ?_
 exact jB (fun h=>lift ((eF hk h5 hE hth hus).trans (if_neg h)) _ rfl) fun h=>lift ((eF hk h5 hE hth hus).trans (if_pos h)) _ rfl
def FN (a0:aC) (a1:aI) (a2:ByteArray×ByteArray×bI×aY×bK×aM×bC):List T:=[aH true aE a0,aH true aK a1,aH true aU (8,a2)]
noncomputable def AM0:Env:=Env.of [(36,.pure cL),(176,.pure O1),(170,.pure zT),(156,.pure j0),(38,.pure eO),(178,.pure OP),(39,.pure dB)]
def A1J:FuncId→Hint:=fun _=>aX
theorem AXJ:aR Tryz.prog AM0:=.cons jY (.cons A4C (.cons AF6 (.cons DS (.cons mL (.cons A3X (.cons mK (.nil _)))))))
def BDN(a2:ByteArray×ByteArray×bI×aY×bK×aM×bC):List T:=[T.v (.int .i64 8),T.v (.string a2.1), T.v (.string a2.2.1),T.v (.string a2.2.2.1.1), T.v (.int .i64 a2.2.2.1.2.1), T.v (.string a2.2.2.1.2.2),T.v (.string a2.2.2.2.1.1), T.v (.int .i64 a2.2.2.2.1.2.1), T.v (.int .i64 a2.2.2.2.1.2.2.1), T.v (.string a2.2.2.2.1.2.2.2.1), T.v (.string a2.2.2.2.1.2.2.2.2.1), T.v (.int .i64 a2.2.2.2.1.2.2.2.2.2.1), T.sl false (List.map aA.enc a2.2.2.2.1.2.2.2.2.2.2.1.1), T.sl false (List.map aA.li.enc a2.2.2.2.1.2.2.2.2.2.2.1.2), T.v (.string a2.2.2.2.1.2.2.2.2.2.2.2.1), T.v (.int .i64 a2.2.2.2.1.2.2.2.2.2.2.2.2.1), T.v (.int .i64 a2.2.2.2.1.2.2.2.2.2.2.2.2.2.1), T.v (.int .i64 a2.2.2.2.1.2.2.2.2.2.2.2.2.2.2.1.1), T.v (Value.int IntKind.i64 a2.2.2.2.1.2.2.2.2.2.2.2.2.2.2.1.2.1), T.v (Value.int IntKind.i64 a2.2.2.2.1.2.2.2.2.2.2.2.2.2.2.1.2.2), T.v (Value.int IntKind.i64 a2.2.2.2.1.2.2.2.2.2.2.2.2.2.2.2.1.1), T.v (Value.int IntKind.i64 a2.2.2.2.1.2.2.2.2.2.2.2.2.2.2.2.1.2.1), T.v (Value.int IntKind.i64 a2.2.2.2.1.2.2.2.2.2.2.2.2.2.2.2.1.2.2), T.v (.int .i64 a2.2.2.2.1.2.2.2.2.2.2.2.2.2.2.2.2), T.v (.string a2.2.2.2.2.1.1), T.v (.string a2.2.2.2.2.1.2.1), T.v (.string a2.2.2.2.2.1.2.2.1), T.v (.int .i64 a2.2.2.2.2.1.2.2.2.1), T.v (.int .i64 a2.2.2.2.2.1.2.2.2.2.1), T.v (.int .i64 a2.2.2.2.2.1.2.2.2.2.2), T.v (.string a2.2.2.2.2.2.1.1), T.v (.string a2.2.2.2.2.2.1.2.1), T.sl false (List.map Sy.str.enc a2.2.2.2.2.2.1.2.2.1), T.v (.int .i64 a2.2.2.2.2.2.1.2.2.2.1), T.sl false (List.map Sy.str.enc a2.2.2.2.2.2.1.2.2.2.2), T.v (.int .i64 a2.2.2.2.2.2.2.1), T.v (.string a2.2.2.2.2.2.2.2.1), T.v (.string a2.2.2.2.2.2.2.2.2)]
def AOT(a0:aC)(a1:aI)(a2:ByteArray×ByteArray×bI×aY×bK×aM×bC)(R:T→Prop):Prop:=aJ [(true,aU)] (O1 [T.agg (BDN a2)]) fun (y0:a8)=>aJ BDA (cL [T.agg (BDN a2), aH true aU y0]) fun (y1:Bool)=>aB (!y1) (R (T.cC BDB)) (aJ [(true,a7),(false,Sy.bool)] (zT [aH true aE a0,T.v (.string a2.1)]) fun (y2:bK×Bool)=>aB (!y2.2) (R (T.cC BDD)) (aJ BDA (j0 [aH true aE a0, T.agg [T.v (.int .i64 8),T.v (.string a2.1), T.v (.string a2.2.1),T.v (.string a2.2.2.1.1), T.v (.int .i64 a2.2.2.1.2.1), T.v (.string a2.2.2.1.2.2), T.v (.string a2.2.2.2.1.1), T.v (.int .i64 a2.2.2.2.1.2.1), T.v (.int .i64 a2.2.2.2.1.2.2.1), T.v (.string a2.2.2.2.1.2.2.2.1), T.v (.string a2.2.2.2.1.2.2.2.2.1), T.v (.int .i64 a2.2.2.2.1.2.2.2.2.2.1), T.sl false (List.map aA.enc a2.2.2.2.1.2.2.2.2.2.2.1.1), T.sl false (List.map aA.li.enc a2.2.2.2.1.2.2.2.2.2.2.1.2), T.v (.string a2.2.2.2.1.2.2.2.2.2.2.2.1), T.v (.int .i64 a2.2.2.2.1.2.2.2.2.2.2.2.2.1), T.v (.int .i64 a2.2.2.2.1.2.2.2.2.2.2.2.2.2.1), T.v (Value.int IntKind.i64 a2.2.2.2.1.2.2.2.2.2.2.2.2.2.2.1.1), T.v (Value.int IntKind.i64 a2.2.2.2.1.2.2.2.2.2.2.2.2.2.2.1.2.1), T.v (Value.int IntKind.i64 a2.2.2.2.1.2.2.2.2.2.2.2.2.2.2.1.2.2), T.v (Value.int IntKind.i64 a2.2.2.2.1.2.2.2.2.2.2.2.2.2.2.2.1.1), T.v (Value.int IntKind.i64 a2.2.2.2.1.2.2.2.2.2.2.2.2.2.2.2.1.2.1), T.v (Value.int IntKind.i64 a2.2.2.2.1.2.2.2.2.2.2.2.2.2.2.2.1.2.2), T.v (Value.int IntKind.i64 a2.2.2.2.1.2.2.2.2.2.2.2.2.2.2.2.2), T.v (.string a2.2.2.2.2.1.1), T.v (.string a2.2.2.2.2.1.2.1), T.v (.string a2.2.2.2.2.1.2.2.1), T.v (.int .i64 a2.2.2.2.2.1.2.2.2.1), T.v (.int .i64 a2.2.2.2.2.1.2.2.2.2.1), T.v (.int .i64 a2.2.2.2.2.1.2.2.2.2.2), T.v (.string a2.2.2.2.2.2.1.1), T.v (.string a2.2.2.2.2.2.1.2.1), T.sl false (List.map Sy.str.enc a2.2.2.2.2.2.1.2.2.1), T.v (.int .i64 a2.2.2.2.2.2.1.2.2.2.1), T.sl false (List.map Sy.str.enc a2.2.2.2.2.2.1.2.2.2.2), T.v (.int .i64 a2.2.2.2.2.2.2.1), T.v (.string a2.2.2.2.2.2.2.2.1), T.v (.string a2.2.2.2.2.2.2.2.2)]]) fun (y3:Bool)=>aB y3 (R (T.cC BDE)) (aJ [(true,aE)] (eO [aH true aE a0]) fun (y4:aC)=>aJ [(true,aE)] (OP [aH true aE y4, T.agg [T.v (.int .i64 8),T.v (.string a2.1), T.v (.string a2.2.1),T.v (.string a2.2.2.1.1), T.v (.int .i64 a2.2.2.1.2.1), T.v (.string a2.2.2.1.2.2), T.v (.string a2.2.2.2.1.1), T.v (.int .i64 a2.2.2.2.1.2.1), T.v (.int .i64 a2.2.2.2.1.2.2.1), T.v (.string a2.2.2.2.1.2.2.2.1), T.v (.string a2.2.2.2.1.2.2.2.2.1), T.v (.int .i64 a2.2.2.2.1.2.2.2.2.2.1), T.sl false (List.map aA.enc a2.2.2.2.1.2.2.2.2.2.2.1.1), T.sl false (List.map aA.li.enc a2.2.2.2.1.2.2.2.2.2.2.1.2), T.v (.string a2.2.2.2.1.2.2.2.2.2.2.2.1), T.v (Value.int IntKind.i64 a2.2.2.2.1.2.2.2.2.2.2.2.2.1), T.v (Value.int IntKind.i64 a2.2.2.2.1.2.2.2.2.2.2.2.2.2.1), T.v (Value.int IntKind.i64 a2.2.2.2.1.2.2.2.2.2.2.2.2.2.2.1.1), T.v (Value.int IntKind.i64 a2.2.2.2.1.2.2.2.2.2.2.2.2.2.2.1.2.1), T.v (Value.int IntKind.i64 a2.2.2.2.1.2.2.2.2.2.2.2.2.2.2.1.2.2), T.v (Value.int IntKind.i64 a2.2.2.2.1.2.2.2.2.2.2.2.2.2.2.2.1.1), T.v (Value.int IntKind.i64 a2.2.2.2.1.2.2.2.2.2.2.2.2.2.2.2.1.2.1), T.v (Value.int IntKind.i64 a2.2.2.2.1.2.2.2.2.2.2.2.2.2.2.2.1.2.2), T.v (Value.int IntKind.i64 a2.2.2.2.1.2.2.2.2.2.2.2.2.2.2.2.2), T.v (.string a2.2.2.2.2.1.1), T.v (.string a2.2.2.2.2.1.2.1), T.v (.string a2.2.2.2.2.1.2.2.1), T.v (.int .i64 a2.2.2.2.2.1.2.2.2.1), T.v (.int .i64 a2.2.2.2.2.1.2.2.2.2.1), T.v (.int .i64 a2.2.2.2.2.1.2.2.2.2.2), T.v (.string a2.2.2.2.2.2.1.1), T.v (.string a2.2.2.2.2.2.1.2.1), T.sl false (List.map Sy.str.enc a2.2.2.2.2.2.1.2.2.1), T.v (.int .i64 a2.2.2.2.2.2.1.2.2.2.1), T.sl false (List.map Sy.str.enc a2.2.2.2.2.2.1.2.2.2.2), T.v (.int .i64 a2.2.2.2.2.2.2.1), T.v (.string a2.2.2.2.2.2.2.2.1), T.v (.string a2.2.2.2.2.2.2.2.2)]]) fun (y5:aC)=>aJ BC9 (dB [aH true aE y5,aH true aK a1]) fun (y6:Int)=>aB (!decide (y6=0)) (R (T.cC [T.agg BC7, T.v (.int .i64 y6)])) (R (T.cC [aH true aE y5,T.v (.int .i64 0)])))))
theorem AOU ( a0 a1 a2 R):dS bZ Tryz.prog AM0 A1J 8 13 (FN a0 a1 a2) R=AOT a0 a1 a2 R:=by kernel_rfl
noncomputable def AE1 (x:aC×aI×ByteArray×ByteArray×bI×aY×bK×aM×bC):Option T:=match okX x.1 (8,x.2.2) with
 | true=>some (Sh.enc [(true,aE),(false,.int .i64)] (bH x.1 x.2.1 (8,x.2.2)))
 | false=>none
theorem AHG (x y:aC×aI×ByteArray×ByteArray×bI×aY×bK×aM×bC) (h:FN x.1 x.2.1 x.2.2=FN y.1 y.2.1 y.2.2):x=y:=by
 simp only[FN,List.cons.injEq,and_true] at h
 obtain ⟨h1,h2,h3⟩:=h
 have e1:=bX (r:=aE) rfl h1
 have e2:=bX (r:=aK) rfl h2
 have e3:=(Prod.mk.inj (bX (r:=aU) rfl h3)).2
 exact Prod.ext e1 (Prod.ext e2 e3)
noncomputable def ASP:List T→Option (T):=gA (fun (x:aC×aI×ByteArray×ByteArray×bI×aY×bK×aM×bC)=>FN x.1 x.2.1 x.2.2) AE1
theorem ASQ (a0:aC) (a1:aI) (a2:ByteArray×ByteArray×bI×aY×bK×aM×bC):ASP (FN a0 a1 a2)=AE1 (a0,a1,a2):=e8 (A:=(fun (x:aC×aI×ByteArray×ByteArray×bI×aY×bK×aM×bC)=>FN x.1 x.2.1 x.2.2)) AHG (a0,a1,a2)
theorem A5I (h:∀ (a0:aC) (a1:aI) (a2:ByteArray×ByteArray×bI×aY×bK×aM×bC) (r:T),AE1 (a0,a1,a2)=some r→(∀ t∈FN a0 a1 a2,Bd t)→AOT a0 a1 a2 (fun y=>y=r)):aN Tryz.prog 13 ASP :=
 cQ (E:=AM0) (Hs:=A1J) AXJ aT aW (aL rfl) 8 ⟨_,_,Tryz.func13,rfl⟩ fun x r h1 h2=>by
  rw[AOU]
  exact h x.1 x.2.1 x.2.2 r h1 h2
theorem A3Q:aN Tryz.prog 13 ASP:=A5I fun d m x r h hb=>by
 clear hb
 obtain ⟨hp,rfl⟩:=lO h
 clear h
 obtain ⟨hc,ho1,ho2⟩:=mO hp
 have c:=dP hc
 have is:∀ {a:aC×Int},bH d m (8,x)=a→Sh.enc [(true,aE),(false,.int .i64)] a=Sh.enc [(true,aE),(false,.int .i64)] (bH d m (8,x)):=fun h=>by rw[h]
 have hk:(1:Int)≤((8,x):a8).1∧((8,x):a8).1≤12:=by dsimp only;omega
 have h5:¬ ((8,x):a8).1=5:=by dsimp only;omega
 have lift:∀ {a:aC×Int},bH d m (8,x)=a→∀ v,v=Sh.enc [(true,aE),(false,.int .i64)] a→v=Sh.enc [(true,aE),(false,.int .i64)] (bH d m (8,x)):=fun h v hv=>by rw[h];exact hv
 unfold AOT BDN BDE BDD BDB BDA BC9 BC7
 have z1:O1 [aH true aU (8,x)]=some (Sh.enc [(true,aU)] (bU (8,x))):=(ATB ..).trans rfl
 refine aF (s:=[(true,aU)]) (y:=bU (8,x)) z1 ?_
 have z2:cL [aH true aU (8,x),aH true aU (bU (8,x))]=some (Sh.enc mD (rB (8,x) (bU (8,x)))):=fT ..
 refine aF (s:=mD) (y:=rB (8,x) (bU (8,x))) z2 ?_
 refine fB (fun h=>lift (mI hk h) _ rfl) fun hE=>?_
 refine aF (s:=[(true,a7),(false,.bool)]) (y:=found gZ (wH d (fQ (8,x)))) (O3 ..) ?_
 have ht:dG d (8,x)=(found gZ (wH d (fQ (8,x)))).2:=(kN ..).symm
 refine fB (fun h=>lift (uS hk h5 hE rfl (ht.trans h)) _ rfl) fun h=>?_
 have hth:dG d (8,x) = !gP (8,x):=ht.trans h
 have z4:j0 [aH true aE d,aH true aU (8,x)]=some (Sh.enc mD (kS d (8,x))):=(F5 ..).trans (rfl)
 refine aF (s:=mD) (y:=kS d (8,x)) z4 ?_
 refine sZ (fun h=>lift (AO hk h5 hE hth h) _ rfl) fun hus=>?_
 refine aF (s:=[(true,aE)]) (y:=d) ((iJ ..).trans (dN hc)) ?_
 have z3:OP [aH true aE d,aH true aU (8,x)]=some (Sh.enc [(true,aE)] (p8 d (8,x))):=(ASY ..).trans (dN hc)
 refine aF (s:=[(true,aE)]) (y:=p8 d (8,x)) z3 ?_
 refine aF (s:=[(false,.int .i64)]) (y:=lV (p8 d (8,x)) m) (iI ..) ?_
 exact jB (fun h=>lift ((eF hk h5 hE hth hus).trans (if_neg h)) _ rfl) fun h=>lift ((eF hk h5 hE hth hus).trans (if_pos h)) _ rfl
def uM (a0:aC) (a1:aI) (a2:ByteArray×ByteArray×bI×aY×bK×aM×bC):List T:=[aH true aE a0,aH true aK a1,aH true aU (10,a2)]
noncomputable def ZQ:Env:=Env.of [(36,.pure cL),(197,.pure DZ),(190,.pure zR),(183,.pure wY),(38,.pure eO),(199,.pure DY),(39,.pure dB)]
def APY:FuncId→Hint:=fun _=>aX
theorem ANZ:aR Tryz.prog ZQ:=.cons jY (.cons AZR (.cons AF3 (.cons ASB (.cons mL (.cons AZN (.cons mK (.nil _)))))))
def BDO(a2:ByteArray×ByteArray×bI×aY×bK×aM×bC):List T:=[T.v (.int .i64 10),T.v (.string a2.1), T.v (.string a2.2.1),T.v (.string a2.2.2.1.1), T.v (.int .i64 a2.2.2.1.2.1), T.v (.string a2.2.2.1.2.2),T.v (.string a2.2.2.2.1.1), T.v (.int .i64 a2.2.2.2.1.2.1), T.v (.int .i64 a2.2.2.2.1.2.2.1), T.v (.string a2.2.2.2.1.2.2.2.1), T.v (.string a2.2.2.2.1.2.2.2.2.1), T.v (.int .i64 a2.2.2.2.1.2.2.2.2.2.1), T.sl false (List.map aA.enc a2.2.2.2.1.2.2.2.2.2.2.1.1), T.sl false (List.map aA.li.enc a2.2.2.2.1.2.2.2.2.2.2.1.2), T.v (.string a2.2.2.2.1.2.2.2.2.2.2.2.1), T.v (.int .i64 a2.2.2.2.1.2.2.2.2.2.2.2.2.1), T.v (.int .i64 a2.2.2.2.1.2.2.2.2.2.2.2.2.2.1), T.v (.int .i64 a2.2.2.2.1.2.2.2.2.2.2.2.2.2.2.1.1), T.v (Value.int IntKind.i64 a2.2.2.2.1.2.2.2.2.2.2.2.2.2.2.1.2.1), T.v (Value.int IntKind.i64 a2.2.2.2.1.2.2.2.2.2.2.2.2.2.2.1.2.2), T.v (Value.int IntKind.i64 a2.2.2.2.1.2.2.2.2.2.2.2.2.2.2.2.1.1), T.v (Value.int IntKind.i64 a2.2.2.2.1.2.2.2.2.2.2.2.2.2.2.2.1.2.1), T.v (Value.int IntKind.i64 a2.2.2.2.1.2.2.2.2.2.2.2.2.2.2.2.1.2.2), T.v (.int .i64 a2.2.2.2.1.2.2.2.2.2.2.2.2.2.2.2.2), T.v (.string a2.2.2.2.2.1.1), T.v (.string a2.2.2.2.2.1.2.1), T.v (.string a2.2.2.2.2.1.2.2.1), T.v (.int .i64 a2.2.2.2.2.1.2.2.2.1), T.v (.int .i64 a2.2.2.2.2.1.2.2.2.2.1), T.v (.int .i64 a2.2.2.2.2.1.2.2.2.2.2), T.v (.string a2.2.2.2.2.2.1.1), T.v (.string a2.2.2.2.2.2.1.2.1), T.sl false (List.map Sy.str.enc a2.2.2.2.2.2.1.2.2.1), T.v (.int .i64 a2.2.2.2.2.2.1.2.2.2.1), T.sl false (List.map Sy.str.enc a2.2.2.2.2.2.1.2.2.2.2), T.v (.int .i64 a2.2.2.2.2.2.2.1), T.v (.string a2.2.2.2.2.2.2.2.1), T.v (.string a2.2.2.2.2.2.2.2.2)]
def AAW(a0:aC)(a1:aI)(a2:ByteArray×ByteArray×bI×aY×bK×aM×bC)(R:T→Prop):Prop:=aJ [(true,aU)] (DZ [T.agg (BDO a2)]) fun (y0:a8)=>aJ BDA (cL [T.agg (BDO a2), aH true aU y0]) fun (y1:Bool)=>aB (!y1) (R (T.cC BDB)) (aJ [(true,aG),(false,Sy.bool)] (zR [aH true aE a0,T.v (.string a2.1)]) fun (y2:aM×Bool)=>aB (!y2.2) (R (T.cC BDD)) (aJ BDA (wY [aH true aE a0, T.agg [T.v (.int .i64 10),T.v (.string a2.1), T.v (.string a2.2.1),T.v (.string a2.2.2.1.1), T.v (.int .i64 a2.2.2.1.2.1), T.v (.string a2.2.2.1.2.2), T.v (.string a2.2.2.2.1.1), T.v (.int .i64 a2.2.2.2.1.2.1), T.v (.int .i64 a2.2.2.2.1.2.2.1), T.v (.string a2.2.2.2.1.2.2.2.1), T.v (.string a2.2.2.2.1.2.2.2.2.1), T.v (.int .i64 a2.2.2.2.1.2.2.2.2.2.1), T.sl false (List.map aA.enc a2.2.2.2.1.2.2.2.2.2.2.1.1), T.sl false (List.map aA.li.enc a2.2.2.2.1.2.2.2.2.2.2.1.2), T.v (.string a2.2.2.2.1.2.2.2.2.2.2.2.1), T.v (.int .i64 a2.2.2.2.1.2.2.2.2.2.2.2.2.1), T.v (.int .i64 a2.2.2.2.1.2.2.2.2.2.2.2.2.2.1), T.v (Value.int IntKind.i64 a2.2.2.2.1.2.2.2.2.2.2.2.2.2.2.1.1), T.v (Value.int IntKind.i64 a2.2.2.2.1.2.2.2.2.2.2.2.2.2.2.1.2.1), T.v (Value.int IntKind.i64 a2.2.2.2.1.2.2.2.2.2.2.2.2.2.2.1.2.2), T.v (Value.int IntKind.i64 a2.2.2.2.1.2.2.2.2.2.2.2.2.2.2.2.1.1), T.v (Value.int IntKind.i64 a2.2.2.2.1.2.2.2.2.2.2.2.2.2.2.2.1.2.1), T.v (Value.int IntKind.i64 a2.2.2.2.1.2.2.2.2.2.2.2.2.2.2.2.1.2.2), T.v (Value.int IntKind.i64 a2.2.2.2.1.2.2.2.2.2.2.2.2.2.2.2.2), T.v (.string a2.2.2.2.2.1.1), T.v (.string a2.2.2.2.2.1.2.1), T.v (.string a2.2.2.2.2.1.2.2.1), T.v (.int .i64 a2.2.2.2.2.1.2.2.2.1), T.v (.int .i64 a2.2.2.2.2.1.2.2.2.2.1), T.v (.int .i64 a2.2.2.2.2.1.2.2.2.2.2), T.v (.string a2.2.2.2.2.2.1.1), T.v (.string a2.2.2.2.2.2.1.2.1), T.sl false (List.map Sy.str.enc a2.2.2.2.2.2.1.2.2.1), T.v (.int .i64 a2.2.2.2.2.2.1.2.2.2.1), T.sl false (List.map Sy.str.enc a2.2.2.2.2.2.1.2.2.2.2), T.v (.int .i64 a2.2.2.2.2.2.2.1), T.v (.string a2.2.2.2.2.2.2.2.1), T.v (.string a2.2.2.2.2.2.2.2.2)]]) fun (y3:Bool)=>aB y3 (R (T.cC BDE)) (aJ [(true,aE)] (eO [aH true aE a0]) fun (y4:aC)=>aJ [(true,aE)] (DY [aH true aE y4, T.agg [T.v (.int .i64 10),T.v (.string a2.1), T.v (.string a2.2.1),T.v (.string a2.2.2.1.1), T.v (.int .i64 a2.2.2.1.2.1), T.v (.string a2.2.2.1.2.2), T.v (.string a2.2.2.2.1.1), T.v (.int .i64 a2.2.2.2.1.2.1), T.v (.int .i64 a2.2.2.2.1.2.2.1), T.v (.string a2.2.2.2.1.2.2.2.1), T.v (.string a2.2.2.2.1.2.2.2.2.1), T.v (.int .i64 a2.2.2.2.1.2.2.2.2.2.1), T.sl false (List.map aA.enc a2.2.2.2.1.2.2.2.2.2.2.1.1), T.sl false (List.map aA.li.enc a2.2.2.2.1.2.2.2.2.2.2.1.2), T.v (.string a2.2.2.2.1.2.2.2.2.2.2.2.1), T.v (Value.int IntKind.i64 a2.2.2.2.1.2.2.2.2.2.2.2.2.1), T.v (Value.int IntKind.i64 a2.2.2.2.1.2.2.2.2.2.2.2.2.2.1), T.v (Value.int IntKind.i64 a2.2.2.2.1.2.2.2.2.2.2.2.2.2.2.1.1), T.v (Value.int IntKind.i64 a2.2.2.2.1.2.2.2.2.2.2.2.2.2.2.1.2.1), T.v (Value.int IntKind.i64 a2.2.2.2.1.2.2.2.2.2.2.2.2.2.2.1.2.2), T.v (Value.int IntKind.i64 a2.2.2.2.1.2.2.2.2.2.2.2.2.2.2.2.1.1), T.v (Value.int IntKind.i64 a2.2.2.2.1.2.2.2.2.2.2.2.2.2.2.2.1.2.1), T.v (Value.int IntKind.i64 a2.2.2.2.1.2.2.2.2.2.2.2.2.2.2.2.1.2.2), T.v (Value.int IntKind.i64 a2.2.2.2.1.2.2.2.2.2.2.2.2.2.2.2.2), T.v (.string a2.2.2.2.2.1.1), T.v (.string a2.2.2.2.2.1.2.1), T.v (.string a2.2.2.2.2.1.2.2.1), T.v (.int .i64 a2.2.2.2.2.1.2.2.2.1), T.v (.int .i64 a2.2.2.2.2.1.2.2.2.2.1), T.v (.int .i64 a2.2.2.2.2.1.2.2.2.2.2), T.v (.string a2.2.2.2.2.2.1.1), T.v (.string a2.2.2.2.2.2.1.2.1), T.sl false (List.map Sy.str.enc a2.2.2.2.2.2.1.2.2.1), T.v (.int .i64 a2.2.2.2.2.2.1.2.2.2.1), T.sl false (List.map Sy.str.enc a2.2.2.2.2.2.1.2.2.2.2), T.v (.int .i64 a2.2.2.2.2.2.2.1), T.v (.string a2.2.2.2.2.2.2.2.1), T.v (.string a2.2.2.2.2.2.2.2.2)]]) fun (y5:aC)=>aJ BC9 (dB [aH true aE y5,aH true aK a1]) fun (y6:Int)=>aB (!decide (y6=0)) (R (T.cC [T.agg BC7, T.v (.int .i64 y6)])) (R (T.cC [aH true aE y5,T.v (.int .i64 0)])))))
theorem AIN ( a0 a1 a2 R):dS bZ Tryz.prog ZQ APY 8 13 (uM a0 a1 a2) R=AAW a0 a1 a2 R:=by kernel_rfl
noncomputable def TG (x:aC×aI×ByteArray×ByteArray×bI×aY×bK×aM×bC):Option T:=match okX x.1 (10,x.2.2) with
 | true=>some (Sh.enc [(true,aE),(false,.int .i64)] (bH x.1 x.2.1 (10,x.2.2)))
 | false=>none
theorem ZI (x y:aC×aI×ByteArray×ByteArray×bI×aY×bK×aM×bC) (h:uM x.1 x.2.1 x.2.2=uM y.1 y.2.1 y.2.2):x=y:=by
 simp only[uM,List.cons.injEq,and_true] at h
 obtain ⟨h1,h2,h3⟩:=h
 have e1:=bX (r:=aE) rfl h1
 have e2:=bX (r:=aK) rfl h2
 have e3:=(Prod.mk.inj (bX (r:=aU) rfl h3)).2
 exact Prod.ext e1 (Prod.ext e2 e3)
noncomputable def ACX:List T→Option (T):=gA (fun (x:aC×aI×ByteArray×ByteArray×bI×aY×bK×aM×bC)=>uM x.1 x.2.1 x.2.2) TG
theorem AKL (a0:aC) (a1:aI) (a2:ByteArray×ByteArray×bI×aY×bK×aM×bC):ACX (uM a0 a1 a2)=TG (a0,a1,a2):=e8 (A:=(fun (x:aC×aI×ByteArray×ByteArray×bI×aY×bK×aM×bC)=>uM x.1 x.2.1 x.2.2)) ZI (a0,a1,a2)
theorem A0H (h:∀ (a0:aC) (a1:aI) (a2:ByteArray×ByteArray×bI×aY×bK×aM×bC) (r:T),TG (a0,a1,a2)=some r→(∀ t∈uM a0 a1 a2,Bd t)→AAW a0 a1 a2 (fun y=>y=r)):aN Tryz.prog 13 ACX :=
 cQ (E:=ZQ) (Hs:=APY) ANZ aT aW (aL rfl) 8 ⟨_,_,Tryz.func13,rfl⟩ fun x r h1 h2=>by
  rw[AIN]
  exact h x.1 x.2.1 x.2.2 r h1 h2
theorem AZI:aN Tryz.prog 13 ACX:=A0H fun d m x r h hb=>by
 clear hb
 obtain ⟨hp,rfl⟩:=lO h
 clear h
 obtain ⟨hc,ho1,ho2⟩:=mO hp
 have c:=dP hc
 have is:∀ {a:aC×Int},bH d m (10,x)=a→Sh.enc [(true,aE),(false,.int .i64)] a=Sh.enc [(true,aE),(false,.int .i64)] (bH d m (10,x)):=fun h=>by rw[h]
 have hk:(1:Int)≤((10,x):a8).1∧((10,x):a8).1≤12:=by dsimp only;omega
 have h5:¬ ((10,x):a8).1=5:=by dsimp only;omega
 have lift:∀ {a:aC×Int},bH d m (10,x)=a→∀ v,v=Sh.enc [(true,aE),(false,.int .i64)] a→v=Sh.enc [(true,aE),(false,.int .i64)] (bH d m (10,x)):=fun h v hv=>by rw[h];exact hv
 unfold AAW BDO BDE BDD BDB BDA BC9 BC7
 have z1:DZ [aH true aU (10,x)]=some (Sh.enc [(true,aU)] (bU (10,x))):=(AKU ..).trans rfl
 refine aF (s:=[(true,aU)]) (y:=bU (10,x)) z1 ?_
 have z2:cL [aH true aU (10,x),aH true aU (bU (10,x))]=some (Sh.enc mD (rB (10,x) (bU (10,x)))):=fT ..
 refine aF (s:=mD) (y:=rB (10,x) (bU (10,x))) z2 ?_
 refine fB (fun h=>lift (mI hk h) _ rfl) fun hE=>?_
 refine aF (s:=[(true,aG),(false,.bool)]) (y:=found noPack (lP d (fQ (10,x)))) ((OT ..).trans (YR _ c.YN)) ?_
 have ht:dG d (10,x)=(found noPack (lP d (fQ (10,x)))).2:=(kN ..).symm
 refine fB (fun h=>lift (uS hk h5 hE rfl (ht.trans h)) _ rfl) fun h=>?_
 have hth:dG d (10,x) = !gP (10,x):=ht.trans h
 have z4:wY [aH true aE d,aH true aU (10,x)]=some (Sh.enc mD (kS d (10,x))):=(ADF ..).trans (dN hc)
 refine aF (s:=mD) (y:=kS d (10,x)) z4 ?_
 refine sZ (fun h=>lift (AO hk h5 hE hth h) _ rfl) fun hus=>?_
 refine aF (s:=[(true,aE)]) (y:=d) ((iJ ..).trans (dN hc)) ?_
 have z3:DY [aH true aE d,aH true aU (10,x)]=some (Sh.enc [(true,aE)] (p8 d (10,x))):=(AKP ..).trans (dN hc)
 refine aF (s:=[(true,aE)]) (y:=p8 d (10,x)) z3 ?_
 refine aF (s:=[(false,.int .i64)]) (y:=lV (p8 d (10,x)) m) (iI ..) ?_
 exact jB (fun h=>lift ((eF hk h5 hE hth hus).trans (if_neg h)) _ rfl) fun h=>lift ((eF hk h5 hE hth hus).trans (if_pos h)) _ rfl
theorem ifC {p q s:Prop} {i:Decidable p} {j:Decidable q} {k:Decidable s} {A B:Prop} (h1:p∧q∧s→A) (h2:¬ (p∧q∧s)→B):aB (@decide p i&&(@decide q j&&(@decide s k&&true))) A B:=by
 by_cases h:p∧q∧s
 ·rw[decide_eq_true h.1,decide_eq_true h.2.1,decide_eq_true h.2.2];exact h1 h
 ·have:(@decide p i&&(@decide q j&&(@decide s k&&true)))=false:=by
   rw[Bool.eq_false_iff]
   intro e
   simp only[Bool.and_eq_true,decide_eq_true_eq,and_true] at e
   exact h e
  rw[this];exact h2 h
theorem w6 {a b:bC}:(a.1=b.1∧a.2.1=b.2.1∧a.2.2=b.2.2)↔a=b:=by
 simp only[Prod.ext_iff]
def uN (a0:aC) (a1:aI) (a2:ByteArray×ByteArray×bI×aY×bK×aM×bC):List T:=[aH true aE a0,aH true aK a1,aH true aU (11,a2)]
noncomputable def ZR:Env:=Env.of [(36,.pure cL),(203,.pure sS),(156,.pure j0),(38,.pure eO),(207,.pure o0),(79,.dup 3 40),(293,.grow 3 jG),(294,.grow 3 wW),(39,.pure dB)]
def APZ:FuncId→Hint:=bV 273 [(2,.inv [.val 8 false (.int .i64)])] (bV 289 [(2,.inv [.val 8 false (.int .i64)])] (fun _=>aX))
theorem AN0:aR Tryz.prog ZR:=.cons jY (.cons AF5 (.cons DS (.cons mL (.cons N8 (aR.cons (x:=.dup 3 40) zJ (.cons KE (.cons KC (.cons mK (.nil _)))))))))
def BDU(y5:aC)(y10:List bC):List T:=[T.v (.string y5.1), T.sl false (List.map aZ.enc y5.2.1), T.sl false (List.map aO.enc y5.2.2.1), T.sl false (List.map a7.enc y5.2.2.2.1), T.sl false (List.map aG.enc y5.2.2.2.2.1), T.sl false (List.map aQ.enc y10)]
def BDP(y5:aC)(y10:List bC)(a1:aI)(R:T→Prop):Prop:=aJ BC9 (dB [T.agg (BDU y5 y10), aH true aK a1]) fun (y11:Int)=>aB (!decide (y11=0)) (R (T.cC [T.agg BC8, T.v (.int .i64 y11)])) (R (T.cC [T.agg (BDU y5 y10), T.v (.int .i64 0)]))
def BDQ(a2:ByteArray×ByteArray×bI×aY×bK×aM×bC):List T:=[T.v (.int .i64 11),T.v (.string a2.1), T.v (.string a2.2.1),T.v (.string a2.2.2.1.1), T.v (.int .i64 a2.2.2.1.2.1), T.v (.string a2.2.2.1.2.2),T.v (.string a2.2.2.2.1.1), T.v (.int .i64 a2.2.2.2.1.2.1), T.v (.int .i64 a2.2.2.2.1.2.2.1), T.v (.string a2.2.2.2.1.2.2.2.1), T.v (.string a2.2.2.2.1.2.2.2.2.1), T.v (.int .i64 a2.2.2.2.1.2.2.2.2.2.1), T.sl false (List.map aA.enc a2.2.2.2.1.2.2.2.2.2.2.1.1), T.sl false (List.map aA.li.enc a2.2.2.2.1.2.2.2.2.2.2.1.2), T.v (.string a2.2.2.2.1.2.2.2.2.2.2.2.1), T.v (.int .i64 a2.2.2.2.1.2.2.2.2.2.2.2.2.1), T.v (.int .i64 a2.2.2.2.1.2.2.2.2.2.2.2.2.2.1), T.v (.int .i64 a2.2.2.2.1.2.2.2.2.2.2.2.2.2.2.1.1), T.v (Value.int IntKind.i64 a2.2.2.2.1.2.2.2.2.2.2.2.2.2.2.1.2.1), T.v (Value.int IntKind.i64 a2.2.2.2.1.2.2.2.2.2.2.2.2.2.2.1.2.2), T.v (Value.int IntKind.i64 a2.2.2.2.1.2.2.2.2.2.2.2.2.2.2.2.1.1), T.v (Value.int IntKind.i64 a2.2.2.2.1.2.2.2.2.2.2.2.2.2.2.2.1.2.1), T.v (Value.int IntKind.i64 a2.2.2.2.1.2.2.2.2.2.2.2.2.2.2.2.1.2.2), T.v (.int .i64 a2.2.2.2.1.2.2.2.2.2.2.2.2.2.2.2.2), T.v (.string a2.2.2.2.2.1.1), T.v (.string a2.2.2.2.2.1.2.1), T.v (.string a2.2.2.2.2.1.2.2.1), T.v (.int .i64 a2.2.2.2.2.1.2.2.2.1), T.v (.int .i64 a2.2.2.2.2.1.2.2.2.2.1), T.v (.int .i64 a2.2.2.2.2.1.2.2.2.2.2), T.v (.string a2.2.2.2.2.2.1.1), T.v (.string a2.2.2.2.2.2.1.2.1), T.sl false (List.map Sy.str.enc a2.2.2.2.2.2.1.2.2.1), T.v (.int .i64 a2.2.2.2.2.2.1.2.2.2.1), T.sl false (List.map Sy.str.enc a2.2.2.2.2.2.1.2.2.2.2), T.v (.int .i64 a2.2.2.2.2.2.2.1), T.v (.string a2.2.2.2.2.2.2.2.1), T.v (.string a2.2.2.2.2.2.2.2.2)]
def BDS(a0:aC):List (List T):=List.map aQ.enc a0.2.2.2.2.2
def BDW(a2:ByteArray×ByteArray×bI×aY×bK×aM×bC):List T:=[T.v (.int .i64 a2.2.2.2.2.2.2.1), T.v (.string a2.2.2.2.2.2.2.2.1), T.v (.string a2.2.2.2.2.2.2.2.2)]
def BDT(y5:aC)(a2:ByteArray×ByteArray×bI×aY×bK×aM×bC)(a1:aI)(R:T→Prop):Prop:=dU aQ (jG (BDS y5) [T.v (Value.int IntKind.i64 (↑(BDS y5).length:Int)), T.sl true [(BDW a2)]]) fun (y14:List bC)=>BDP y5 y14 a1 R
def BDR(y9:Bool)(s7:Int×PUnit)(y5:aC)(a2:ByteArray×ByteArray×bI×aY×bK×aM×bC)(a1:aI)(R:T→Prop)(X6:Int×PUnit→Prop):Prop:=aB y9 (aB (decide (s7.1<0)) (bS (((BDS y5).all fun (r:List T)=>decide (r.length=3)) && decide ((BDS y5).length*40 ≤ 140737488355328) && decide ((BDS y5).length≤140737488355328)) (BDT y5 a2 a1 R)) (bS (((BDS y5).all fun (r:List T)=>decide (r.length=3)) && decide ((BDS y5).length*40 ≤ 140737488355328) && decide ((BDS y5).length≤140737488355328)) (dU aQ (jG (BDS y5) [T.v (.int .i64 s7.1), T.sl true [(BDW a2)]]) fun (y12:List bC)=>BDP y5 y12 a1 R))) (X6 (IntKind.i64.wrap (s7.1+1),()))
def BDV(y5:aC)(a2:ByteArray×ByteArray×bI×aY×bK×aM×bC)(a1:aI)(R:T→Prop):Prop:=bS (((BDS y5).all fun (r:List T)=>decide (r.length=3)) && decide ((BDS y5).length*40≤140737488355328) && decide ((BDS y5).length≤140737488355328)) (BDT y5 a2 a1 R)
def AAX(a0:aC)(a1:aI)(a2:ByteArray×ByteArray×bI×aY×bK×aM×bC)(R:T→Prop):Prop:=aJ [(true,aU)] (sS [T.agg (BDQ a2)]) fun (y0:a8)=>aJ BDA (cL [T.agg (BDQ a2), aH true aU y0]) fun (y1:Bool)=>aB (!y1) (R (T.cC BDB)) (a6 (Int×PUnit) (fun X2 s3=>aB (decide (s3.1<(↑(BDS a0).length:Int))) (aS aQ (BDS a0) s3.1 fun (y4:bC)=>aB (decide (a2.2.2.2.2.2.2.1=y4.1) && (decide (a2.2.2.2.2.2.2.2.1=y4.2.1) && (decide (a2.2.2.2.2.2.2.2.2=y4.2.2)&&true))) (aB (decide (0≤s3.1)) (R (T.cC BDF)) (aJ [(true,aE)] (eO [aH true aE a0]) fun (y5:aC)=>a6 (Int×PUnit) (fun X6 s7=>aB (decide (s7.1<(↑(BDS y5).length:Int))) (aS aQ (BDS y5) s7.1 fun (y8:bC)=>aJ BDA (o0 [aH true aQ y8, aH true aQ a2.2.2.2.2.2.2]) fun (y9:Bool)=>BDR y9 s7 y5 a2 a1 R X6) (BDV y5 a2 a1 R)) (0,()))) (X2 (IntKind.i64.wrap (s3.1+1),()))) (aJ [(true,aE)] (eO [aH true aE a0]) fun (y16:aC)=>a6 (Int×PUnit) (fun X17 s18=>aB (decide (s18.1<(↑(BDS y16).length:Int))) (aS aQ (BDS y16) s18.1 fun (y19:bC)=>aJ BDA (o0 [aH true aQ y19,aH true aQ a2.2.2.2.2.2.2]) fun (y20:Bool)=>BDR y20 s18 y16 a2 a1 R X17) (BDV y16 a2 a1 R)) (0,()))) (0,()))
theorem AIO ( a0 a1 a2 R):dS bZ Tryz.prog ZR APZ 8 13 (uN a0 a1 a2) R=AAX a0 a1 a2 R:=by kernel_rfl
noncomputable def TH (x:aC×aI×ByteArray×ByteArray×bI×aY×bK×aM×bC):Option T:=match okX x.1 (11,x.2.2) with
 | true=>some (Sh.enc [(true,aE),(false,.int .i64)] (bH x.1 x.2.1 (11,x.2.2)))
 | false=>none
theorem ZJ (x y:aC×aI×ByteArray×ByteArray×bI×aY×bK×aM×bC) (h:uN x.1 x.2.1 x.2.2=uN y.1 y.2.1 y.2.2):x=y:=by
 simp only[uN,List.cons.injEq,and_true] at h
 obtain ⟨h1,h2,h3⟩:=h
 have e1:=bX (r:=aE) rfl h1
 have e2:=bX (r:=aK) rfl h2
 have e3:=(Prod.mk.inj (bX (r:=aU) rfl h3)).2
 exact Prod.ext e1 (Prod.ext e2 e3)
noncomputable def ACY:List T→Option (T):=gA (fun (x:aC×aI×ByteArray×ByteArray×bI×aY×bK×aM×bC)=>uN x.1 x.2.1 x.2.2) TH
theorem AKM (a0:aC) (a1:aI) (a2:ByteArray×ByteArray×bI×aY×bK×aM×bC):ACY (uN a0 a1 a2)=TH (a0,a1,a2):=e8 (A:=(fun (x:aC×aI×ByteArray×ByteArray×bI×aY×bK×aM×bC)=>uN x.1 x.2.1 x.2.2)) ZJ (a0,a1,a2)
theorem A0I (h:∀ (a0:aC) (a1:aI) (a2:ByteArray×ByteArray×bI×aY×bK×aM×bC) (r:T),TH (a0,a1,a2)=some r→(∀ t∈uN a0 a1 a2,Bd t)→AAX a0 a1 a2 (fun y=>y=r)):aN Tryz.prog 13 ACY :=
 cQ (E:=ZR) (Hs:=APZ) AN0 aT aW (aL rfl) 8 ⟨_,_,Tryz.func13,rfl⟩ fun x r h1 h2=>by
  rw[AIO]
  exact h x.1 x.2.1 x.2.2 r h1 h2
theorem AZJ:aN Tryz.prog 13 ACY:=A0I fun d m x r h hb=>by
 clear hb
 obtain ⟨hp,rfl⟩:=lO h
 clear h
 obtain ⟨hc,ho1,ho2⟩:=mO hp
 have c:=dP hc
 have is:∀ {a:aC×Int},bH d m (11,x)=a→Sh.enc [(true,aE),(false,.int .i64)] a=Sh.enc [(true,aE),(false,.int .i64)] (bH d m (11,x)):=fun h=>by rw[h]
 have hk:(1:Int)≤((11,x):a8).1∧((11,x):a8).1≤12:=by dsimp only;omega
 have h5:¬ ((11,x):a8).1=5:=by dsimp only;omega
 have lift:∀ {a:aC×Int},bH d m (11,x)=a→∀ v,v=Sh.enc [(true,aE),(false,.int .i64)] a→v=Sh.enc [(true,aE),(false,.int .i64)] (bH d m (11,x)):=fun h v hv=>by rw[h];exact hv
 unfold AAX BDV BDR BDT BDW BDS BDQ BDP BDU BDF BDB BDA BC9 BC8 BC7
 have z1:sS [aH true aU (11,x)]=some (Sh.enc [(true,aU)] (bU (11,x))):=(OW ..).trans rfl
 refine aF (s:=[(true,aU)]) (y:=bU (11,x)) z1 ?_
 have z2:cL [aH true aU (11,x),aH true aU (bU (11,x))]=some (Sh.enc mD (rB (11,x) (bU (11,x)))):=fT ..
 refine aF (s:=mD) (y:=rB (11,x) (bU (11,x))) z2 ?_
 refine fB (fun h=>lift (mI hk h) _ rfl) fun hE=>?_
 have hd:=uX (r:=aQ) (l:=d.2.2.2.2.2) (z:=3) (b:=40) rfl (cY c.r (by decide))
 have pos:∀ {k:Nat},¬ (0≤(k:Int))→False:=fun h=>h (by omega)
 have hus:kS d (11,x)=false:=rfl
 have tail:∀ (hth:dG d (11,x) = !gP (11,x)) (l:List bC) (hl:l=mY DC d.2.2.2.2.2 (kL (11,x))),aJ [(false,Sy.int IntKind.i64)] (dB [aH true aE (d.1,d.2.1,d.2.2.1,d.2.2.2.1,d.2.2.2.2.1,l),aH true aK m]) fun (y:Int) =>
   aB (!decide (y=0)) (Sh.enc [(true,aE),(false,.int .i64)] (CX,y)=Sh.enc [(true,aE),(false,.int .i64)] (bH d m (11,x))) (Sh.enc [(true,aE),(false,.int .i64)] ((d.1,d.2.1,d.2.2.1,d.2.2.2.1,d.2.2.2.2.1,l),0)=Sh.enc [(true,aE),(false,.int .i64)] (bH d m (11,x))):=fun hth l hl=>by
  subst hl
  refine aF (s:=[(false,.int .i64)]) (y:=lV (p8 d (11,x)) m) (iI ..) ?_
  exact jB (fun h=>is ((eF hk h5 hE hth hus).trans (if_neg h))) fun h=>is ((eF hk h5 hE hth hus).trans (if_pos h))
 refine cP (r:=aQ) (fun n=>decide (n=kL (11,x))) (pA c.r) (fun X k y hlt hy hp hn=>?_) (fun _ h0=>?_)
 ·dsimp only
  refine ifC (fun h=>?_) fun h=>hn (decide_eq_false fun e=>h (w6.2 e.symm))
  obtain ⟨_,h2⟩:=hp (decide_eq_true (w6.1 h).symm)
  exact b6 (fun _=>lift (rH hk h5 hE rfl h2) _ rfl) fun h=>(pos h).elim
 ·have hth:dG d (11,x) = !gP (11,x):=h0
  refine aF (s:=[(true,aE)]) (y:=d) ((iJ ..).trans (dN hc)) ?_
  refine cP (r:=aQ) (fun y=>DC y (kL (11,x))) (pA c.r) (fun X k y hk' hy hp hn=>?_) (fun h _=>?_)
  ·dsimp only
   refine aF (s:=mD) (y:=DC y (kL (11,x))) (WW ..) ?_
   refine sZ (fun h=>?_) fun h=>hn h
   obtain ⟨hi,_⟩:=hp h
   refine b6 (fun h=>by omega) fun _=>⟨hd,?_⟩
   refine dH (r:=aQ) (l:=d.2.2.2.2.2.take k++kL (11,x)::d.2.2.2.2.2.drop k) (qY (r:=aQ) (x:=kL (11,x)) rfl (by omega) c.r (by decide)) _ ?_
   exact tail hth _ (by unfold mY;rw[hi])
  ·refine ⟨hd,?_⟩
   rw[show (((List.map aQ.enc d.2.2.2.2.2).length:Nat):Int)=((d.2.2.2.2.2.length:Nat):Int) by rw[List.length_map]]
   refine dH (r:=aQ) (l:=d.2.2.2.2.2.take d.2.2.2.2.2.length++kL (11,x)::d.2.2.2.2.2.drop d.2.2.2.2.2.length) (qY (r:=aQ) (x:=kL (11,x)) rfl (Nat.le_refl _) c.r (by decide)) _ ?_
   exact tail hth _ (by unfold mY;rw[h])
def uO (a0:aC) (a1:aI) (a2:ByteArray×ByteArray×bI×aY×bK×aM×bC):List T:=[aH true aE a0,aH true aK a1,aH true aU (12,a2)]
noncomputable def ZS:Env:=Env.of [(36,.pure cL),(203,.pure sS),(156,.pure j0),(38,.pure eO),(207,.pure o0),(79,.dup 3 40),(293,.grow 3 jG),(294,.grow 3 wW),(39,.pure dB)]
def AP0:FuncId→Hint:=bV 273 [(2,.inv [.val 8 false (.int .i64)])] (bV 289 [(2,.inv [.val 8 false (.int .i64)])] (fun _=>aX))
theorem AN1:aR Tryz.prog ZS:=.cons jY (.cons AF5 (.cons DS (.cons mL (.cons N8 (aR.cons (x:=.dup 3 40) zJ (.cons KE (.cons KC (.cons mK (.nil _)))))))))
def BDX(a2:ByteArray×ByteArray×bI×aY×bK×aM×bC):List T:=[T.v (.int .i64 12),T.v (.string a2.1), T.v (.string a2.2.1),T.v (.string a2.2.2.1.1), T.v (.int .i64 a2.2.2.1.2.1), T.v (.string a2.2.2.1.2.2),T.v (.string a2.2.2.2.1.1), T.v (.int .i64 a2.2.2.2.1.2.1), T.v (.int .i64 a2.2.2.2.1.2.2.1), T.v (.string a2.2.2.2.1.2.2.2.1), T.v (.string a2.2.2.2.1.2.2.2.2.1), T.v (.int .i64 a2.2.2.2.1.2.2.2.2.2.1), T.sl false (List.map aA.enc a2.2.2.2.1.2.2.2.2.2.2.1.1), T.sl false (List.map aA.li.enc a2.2.2.2.1.2.2.2.2.2.2.1.2), T.v (.string a2.2.2.2.1.2.2.2.2.2.2.2.1), T.v (.int .i64 a2.2.2.2.1.2.2.2.2.2.2.2.2.1), T.v (.int .i64 a2.2.2.2.1.2.2.2.2.2.2.2.2.2.1), T.v (.int .i64 a2.2.2.2.1.2.2.2.2.2.2.2.2.2.2.1.1), T.v (Value.int IntKind.i64 a2.2.2.2.1.2.2.2.2.2.2.2.2.2.2.1.2.1), T.v (Value.int IntKind.i64 a2.2.2.2.1.2.2.2.2.2.2.2.2.2.2.1.2.2), T.v (Value.int IntKind.i64 a2.2.2.2.1.2.2.2.2.2.2.2.2.2.2.2.1.1), T.v (Value.int IntKind.i64 a2.2.2.2.1.2.2.2.2.2.2.2.2.2.2.2.1.2.1), T.v (Value.int IntKind.i64 a2.2.2.2.1.2.2.2.2.2.2.2.2.2.2.2.1.2.2), T.v (.int .i64 a2.2.2.2.1.2.2.2.2.2.2.2.2.2.2.2.2), T.v (.string a2.2.2.2.2.1.1), T.v (.string a2.2.2.2.2.1.2.1), T.v (.string a2.2.2.2.2.1.2.2.1), T.v (.int .i64 a2.2.2.2.2.1.2.2.2.1), T.v (.int .i64 a2.2.2.2.2.1.2.2.2.2.1), T.v (.int .i64 a2.2.2.2.2.1.2.2.2.2.2), T.v (.string a2.2.2.2.2.2.1.1), T.v (.string a2.2.2.2.2.2.1.2.1), T.sl false (List.map Sy.str.enc a2.2.2.2.2.2.1.2.2.1), T.v (.int .i64 a2.2.2.2.2.2.1.2.2.2.1), T.sl false (List.map Sy.str.enc a2.2.2.2.2.2.1.2.2.2.2), T.v (.int .i64 a2.2.2.2.2.2.2.1), T.v (.string a2.2.2.2.2.2.2.2.1), T.v (.string a2.2.2.2.2.2.2.2.2)]
def BDZ(a0:aC):List (List T):=List.map aQ.enc a0.2.2.2.2.2
def BDY(y6:aC)(a1:aI)(R:T→Prop):Prop:=bS (((BDZ y6).all fun (r:List T)=>decide (r.length=3)) && decide ((BDZ y6).length*40 ≤ 140737488355328) && decide ((BDZ y6).length≤140737488355328)) (aJ BC9 (dB [aH true aE y6,aH true aK a1]) fun (y10:Int)=>aB (!decide (y10=0)) (R (T.cC [T.agg BC8, T.v (.int .i64 y10)])) (R (T.cC [aH true aE y6, T.v (.int .i64 0)])))
def BD0(y6:aC)(y11:List bC):List T:=[T.v (.string y6.1), T.sl false (List.map aZ.enc y6.2.1), T.sl false (List.map aO.enc y6.2.2.1), T.sl false (List.map a7.enc y6.2.2.2.1), T.sl false (List.map aG.enc y6.2.2.2.2.1), T.sl false (List.map aQ.enc y11)]
def AAY(a0:aC)(a1:aI)(a2:ByteArray×ByteArray×bI×aY×bK×aM×bC)(R:T→Prop):Prop:=aJ [(true,aU)] (sS [T.agg (BDX a2)]) fun (y0:a8)=>aJ BDA (cL [T.agg (BDX a2), aH true aU y0]) fun (y1:Bool)=>aB (!y1) (R (T.cC BDB)) (a6 (Int×PUnit) (fun X2 s3=>aB (decide (s3.1<(↑(BDZ a0).length:Int))) (aS aQ (BDZ a0) s3.1 fun (y4:bC)=>aB (decide (a2.2.2.2.2.2.2.1=y4.1) && (decide (a2.2.2.2.2.2.2.2.1=y4.2.1) && (decide (a2.2.2.2.2.2.2.2.2=y4.2.2)&&true))) (aB (!decide (0≤s3.1)) (R (T.cC BDD)) (aJ BDA (j0 [aH true aE a0, T.agg [T.v (.int .i64 12),T.v (.string a2.1), T.v (.string a2.2.1),T.v (.string a2.2.2.1.1), T.v (.int .i64 a2.2.2.1.2.1), T.v (.string a2.2.2.1.2.2), T.v (.string a2.2.2.2.1.1), T.v (.int .i64 a2.2.2.2.1.2.1), T.v (.int .i64 a2.2.2.2.1.2.2.1), T.v (.string a2.2.2.2.1.2.2.2.1), T.v (.string a2.2.2.2.1.2.2.2.2.1), T.v (.int .i64 a2.2.2.2.1.2.2.2.2.2.1), T.sl false (List.map aA.enc a2.2.2.2.1.2.2.2.2.2.2.1.1), T.sl false (List.map aA.li.enc a2.2.2.2.1.2.2.2.2.2.2.1.2), T.v (.string a2.2.2.2.1.2.2.2.2.2.2.2.1), T.v (Value.int IntKind.i64 a2.2.2.2.1.2.2.2.2.2.2.2.2.1), T.v (Value.int IntKind.i64 a2.2.2.2.1.2.2.2.2.2.2.2.2.2.1), T.v (Value.int IntKind.i64 a2.2.2.2.1.2.2.2.2.2.2.2.2.2.2.1.1), T.v (Value.int IntKind.i64 a2.2.2.2.1.2.2.2.2.2.2.2.2.2.2.1.2.1), T.v (Value.int IntKind.i64 a2.2.2.2.1.2.2.2.2.2.2.2.2.2.2.1.2.2), T.v (Value.int IntKind.i64 a2.2.2.2.1.2.2.2.2.2.2.2.2.2.2.2.1.1), T.v (Value.int IntKind.i64 a2.2.2.2.1.2.2.2.2.2.2.2.2.2.2.2.1.2.1), T.v (Value.int IntKind.i64 a2.2.2.2.1.2.2.2.2.2.2.2.2.2.2.2.1.2.2), T.v (Value.int IntKind.i64 a2.2.2.2.1.2.2.2.2.2.2.2.2.2.2.2.2), T.v (.string a2.2.2.2.2.1.1), T.v (.string a2.2.2.2.2.1.2.1), T.v (.string a2.2.2.2.2.1.2.2.1), T.v (.int .i64 a2.2.2.2.2.1.2.2.2.1), T.v (.int .i64 a2.2.2.2.2.1.2.2.2.2.1), T.v (.int .i64 a2.2.2.2.2.1.2.2.2.2.2), T.v (.string a2.2.2.2.2.2.1.1), T.v (.string a2.2.2.2.2.2.1.2.1), T.sl false (List.map Sy.str.enc a2.2.2.2.2.2.1.2.2.1), T.v (.int .i64 a2.2.2.2.2.2.1.2.2.2.1), T.sl false (List.map Sy.str.enc a2.2.2.2.2.2.1.2.2.2.2), T.v (.int .i64 a2.2.2.2.2.2.2.1), T.v (.string a2.2.2.2.2.2.2.2.1), T.v (.string a2.2.2.2.2.2.2.2.2)]]) fun (y5:Bool)=>aB y5 (R (T.cC BDE)) (aJ [(true,aE)] (eO [aH true aE a0]) fun (y6:aC)=>a6 (Int×PUnit) (fun X7 s8=>aB (decide (s8.1<(↑(BDZ y6).length:Int))) (aS aQ (BDZ y6) s8.1 fun (y9:bC)=>aB (decide (y9.1=a2.2.2.2.2.2.2.1) && (decide (y9.2.1=a2.2.2.2.2.2.2.2.1) && (decide (y9.2.2=a2.2.2.2.2.2.2.2.2)&&true))) (aB (decide (s8.1<0)) (BDY y6 a1 R) (bS (((BDZ y6).all fun (r:List T)=>decide (r.length=3)) && decide ((BDZ y6).length*40 ≤ 140737488355328) && decide ((BDZ y6).length≤140737488355328)) (dU aQ (wW (BDZ y6) [T.v (.int .i64 s8.1), T.v (.int .i64 (IntKind.i64.wrap (s8.1+1)))]) fun (y11:List bC)=>aJ BC9 (dB [T.agg (BD0 y6 y11), aH true aK a1]) fun (y12:Int)=>aB (!decide (y12=0)) (R (T.cC [T.agg BC8, T.v (.int .i64 y12)])) (R (T.cC [T.agg (BD0 y6 y11), T.v (.int .i64 0)]))))) (X7 (IntKind.i64.wrap (s8.1+1),()))) (BDY y6 a1 R)) (0,())))) (X2 (IntKind.i64.wrap (s3.1+1),()))) (R (T.cC BDD))) (0,()))
theorem AIP ( a0 a1 a2 R):dS bZ Tryz.prog ZS AP0 8 13 (uO a0 a1 a2) R=AAY a0 a1 a2 R:=by kernel_rfl
noncomputable def TI (x:aC×aI×ByteArray×ByteArray×bI×aY×bK×aM×bC):Option T:=match okX x.1 (12,x.2.2) with
 | true=>some (Sh.enc [(true,aE),(false,.int .i64)] (bH x.1 x.2.1 (12,x.2.2)))
 | false=>none
theorem ZK (x y:aC×aI×ByteArray×ByteArray×bI×aY×bK×aM×bC) (h:uO x.1 x.2.1 x.2.2=uO y.1 y.2.1 y.2.2):x=y:=by
 simp only[uO,List.cons.injEq,and_true] at h
 obtain ⟨h1,h2,h3⟩:=h
 have e1:=bX (r:=aE) rfl h1
 have e2:=bX (r:=aK) rfl h2
 have e3:=(Prod.mk.inj (bX (r:=aU) rfl h3)).2
 exact Prod.ext e1 (Prod.ext e2 e3)
noncomputable def ACZ:List T→Option (T):=gA (fun (x:aC×aI×ByteArray×ByteArray×bI×aY×bK×aM×bC)=>uO x.1 x.2.1 x.2.2) TI
theorem AKN (a0:aC) (a1:aI) (a2:ByteArray×ByteArray×bI×aY×bK×aM×bC):ACZ (uO a0 a1 a2)=TI (a0,a1,a2):=e8 (A:=(fun (x:aC×aI×ByteArray×ByteArray×bI×aY×bK×aM×bC)=>uO x.1 x.2.1 x.2.2)) ZK (a0,a1,a2)
theorem A0J (h:∀ (a0:aC) (a1:aI) (a2:ByteArray×ByteArray×bI×aY×bK×aM×bC) (r:T),TI (a0,a1,a2)=some r→(∀ t∈uO a0 a1 a2,Bd t)→AAY a0 a1 a2 (fun y=>y=r)):aN Tryz.prog 13 ACZ :=
 cQ (E:=ZS) (Hs:=AP0) AN1 aT aW (aL rfl) 8 ⟨_,_,Tryz.func13,rfl⟩ fun x r h1 h2=>by
  rw[AIP]
  exact h x.1 x.2.1 x.2.2 r h1 h2
theorem AZK:aN Tryz.prog 13 ACZ:=A0J fun d m x r h hb=>by
 clear hb
 obtain ⟨hp,rfl⟩:=lO h
 clear h
 obtain ⟨hc,ho1,ho2⟩:=mO hp
 have c:=dP hc
 have is:∀ {a:aC×Int},bH d m (12,x)=a→Sh.enc [(true,aE),(false,.int .i64)] a=Sh.enc [(true,aE),(false,.int .i64)] (bH d m (12,x)):=fun h=>by rw[h]
 have hk:(1:Int)≤((12,x):a8).1∧((12,x):a8).1≤12:=by dsimp only;omega
 have h5:¬ ((12,x):a8).1=5:=by dsimp only;omega
 have lift:∀ {a:aC×Int},bH d m (12,x)=a→∀ v,v=Sh.enc [(true,aE),(false,.int .i64)] a→v=Sh.enc [(true,aE),(false,.int .i64)] (bH d m (12,x)):=fun h v hv=>by rw[h];exact hv
 unfold AAY BD0 BDY BDZ BDX BDE BDD BDB BDA BC9 BC8 BC7
 have z1:sS [aH true aU (12,x)]=some (Sh.enc [(true,aU)] (bU (12,x))):=(OW ..).trans rfl
 refine aF (s:=[(true,aU)]) (y:=bU (12,x)) z1 ?_
 have z2:cL [aH true aU (12,x),aH true aU (bU (12,x))]=some (Sh.enc mD (rB (12,x) (bU (12,x)))):=fT ..
 refine aF (s:=mD) (y:=rB (12,x) (bU (12,x))) z2 ?_
 refine fB (fun h=>lift (mI hk h) _ rfl) fun hE=>?_
 have hd:=uX (r:=aQ) (l:=d.2.2.2.2.2) (z:=3) (b:=40) rfl (cY c.r (by decide))
 have pos:∀ {k:Nat},¬ (0≤(k:Int))→False:=fun h=>h (by omega)
 have hus:kS d (12,x)=false:=rfl
 refine cP (r:=aQ) (fun n=>decide (n=kL (12,x))) (pA c.r) (fun X k y hlt hy hp hn=>?_) (fun _ h0=>lift (uS hk h5 hE rfl h0) _ rfl)
 dsimp only
 refine ifC (fun h=>?_) fun h=>hn (decide_eq_false fun e=>h (w6.2 e.symm))
 obtain ⟨_,h2⟩:=hp (decide_eq_true (w6.1 h).symm)
 have hth:dG d (12,x) = !gP (12,x):=h2
 refine fB (fun h=>(pos (of_decide_eq_false h)).elim) fun _=>?_
 have z4:j0 [aH true aE d,aH true aU (12,x)]=some (Sh.enc mD (kS d (12,x))):=(F5 ..).trans rfl
 refine aF (s:=mD) (y:=kS d (12,x)) z4 ?_
 refine sZ (fun h=>absurd h (by rw[hus];decide)) fun _=>?_
 refine aF (s:=[(true,aE)]) (y:=d) ((iJ ..).trans (dN hc)) ?_
 clear hp hn
 refine cP (r:=aQ) (fun n=>decide (n=kL (12,x))) (pA c.r) (fun X k y hk' hy hp hn=>?_) (fun h h3=>?_)
 ·dsimp only
  refine ifC (fun h=>?_) fun h=>hn (decide_eq_false fun e=>h (w6.2 e))
  obtain ⟨hi,_⟩:=hp (decide_eq_true (w6.1 h))
  refine b6 (fun h=>by omega) fun _=>⟨hd,?_⟩
  have eD:p8 d (12,x)=(d.1,d.2.1,d.2.2.1,d.2.2.2.1,d.2.2.2.2.1,d.2.2.2.2.2.take k++d.2.2.2.2.2.drop (k+1)):=by
   show (d.1,d.2.1,d.2.2.1,d.2.2.2.1,d.2.2.2.2.1,iQ (fun n=>decide (n=kL (12,x))) d.2.2.2.2.2)=_
   unfold iQ;rw[hi]
  refine dH (r:=aQ) (l:=d.2.2.2.2.2.take k++d.2.2.2.2.2.drop (k+1)) (DK (r:=aQ) rfl hk' c.r) _ ?_
  have z5:dB [aH true aE (d.1,d.2.1,d.2.2.1,d.2.2.2.1,d.2.2.2.2.1,d.2.2.2.2.2.take k++d.2.2.2.2.2.drop (k+1)),aH true aK m]=some (Sh.enc [(false,Sy.int .i64)] (lV (d.1,d.2.1,d.2.2.1,d.2.2.2.1,d.2.2.2.2.1,d.2.2.2.2.2.take k++d.2.2.2.2.2.drop (k+1)) m)):=iI ..
  refine aF (s:=[(false,.int .i64)]) (y:=lV (p8 d (12,x)) m) (by rw[eD];exact z5) ?_
  exact jB (fun h=>lift ((eF hk h5 hE hth hus).trans (if_neg h)) _ rfl) fun h=>lift ((eF hk h5 hE hth hus).trans (if_pos h)) _ (by rw[eD];rfl)
 ·exfalso
  have:=h2.symm.trans h3
  cases this
end Go.Pv
namespace Go.Pv
open Go Go.Proofs
noncomputable def AWZ:Env:=Env.of []
def AYE:FuncId→Hint:=bV 15 [(4,.inv [.val 3 false (.int .i64)])] (fun _=>aX)
theorem AH6:aR Tryz.prog AWZ:=.nil _
def BD1(a0:aY):List (List T):=List.map aA.li.enc a0.2.2.2.2.2.2.1.2
def QL(a0:aY)(R:T→Prop):Prop:=aB (decide (200<(↑(ByteArray.size a0.1):Int))) (R BDC) (aB (decide (200<(↑(ByteArray.size a0.2.2.2.1):Int))) (R BDC) (aB (decide (200<(↑(ByteArray.size a0.2.2.2.2.1):Int))) (R BDC) (aB (decide (200<(↑(ByteArray.size a0.2.2.2.2.2.2.2.1):Int))) (R BDC) (aB (decide (40<(↑(List.map aA.enc a0.2.2.2.2.2.2.1.1).length:Int))) (R BDC) (aB (decide (12<(↑(BD1 a0).length:Int))) (R BDC) (a6 (Int×PUnit) (fun X0 s1=>aB (decide (s1.1<(↑(BD1 a0).length:Int))) (aS aA.li (BD1 a0) s1.1 fun (y2:List aP)=>aB (decide (40<(↑(List.map aA.enc y2).length:Int))) (R BDC) (X0 (IntKind.i64.wrap (s1.1+1),()))) (R BDG)) (0,())))))))
abbrev SZ:Sh:=[(true,aO)]
def rO (p:aY):Bool:=decide ((p.1.size:Int)≤200)&&(decide ((p.2.2.2.1.size:Int)≤200)&&(decide ((p.2.2.2.2.1.size:Int)≤200)&&(decide ((p.2.2.2.2.2.2.2.1.size:Int)≤200)&&(decide ((p.2.2.2.2.2.2.1.1.length:Int)≤40)&&(decide ((p.2.2.2.2.2.2.1.2.length:Int)≤12)&&p.2.2.2.2.2.2.1.2.all fun h=>decide ((h.length:Int)≤40))))))
def CF (p:aY):Option T:=some (Sh.enc mD (rO p))
noncomputable def BI:List T→Option T:=gS SZ CF
theorem AC2 {a0}:BI [aH true aO a0]=CF (a0):=bD (s:=SZ) rfl (a0) rfl
theorem AUR:rA Tryz.prog 15 BI CF (cB SZ) QL:=gF (a1:=(true,aO)) (sp:=CF) (F:=QL) (Hs:=AYE) (f:=15) (k:=8) AH6 aT aW (aL rfl) ⟨_,_,Tryz.func15,rfl⟩ rfl fun _ _=>by kernel_rfl
theorem ARZ:aN Tryz.prog 15 BI:=AUR fun p r h hb=>by
 clear hb
 cases h
 have no:rO p=false→T.v (.bool false)=Sh.enc mD (rO p):=fun h=>by rw[h];rfl
 unfold QL BD1 BDG BDC
 simp only[List.length_map]
 refine eR (fun h=>no (by simp[rO,h])) fun g1=>?_
 refine eR (fun h=>no (by simp[rO,h])) fun g2=>?_
 refine eR (fun h=>no (by simp[rO,h])) fun g3=>?_
 refine eR (fun h=>no (by simp[rO,h])) fun g4=>?_
 refine eR (fun h=>no (by simp[rO,h])) fun g5=>?_
 refine eR (fun h=>no (by simp[rO,h])) fun g6=>?_
 refine bG p.2.2.2.2.2.2.1.2.length (fun k s=>s=((k:Int),())∧rO p=(p.2.2.2.2.2.2.1.2.drop k).all fun h=>decide ((h.length:Int)≤40)) ⟨rfl,by simp only[rO,g1,g2,g3,g4,g5,g6,decide_true,Bool.true_and,List.drop_zero]⟩ ?_
 rintro X k s hk ⟨rfl,he⟩ hX
 dsimp only
 by_cases hlt:k<p.2.2.2.2.2.2.1.2.length
 ·rw[JE hlt] at he
  refine dC (by simp[hlt]) ?_
  rw[bA (r:=.li aA) hlt]
  try simp only[List.length_map]
  refine eR (fun h=>no (by rw[he];simp[h])) fun g7=>?_
  refine hX _ hlt ⟨by rw[show IntKind.i64.wrap ((k:Int)+1)=((k+1:Nat):Int) from bB _ (by omega) (by omega)],?_⟩
  rw[he]
  simp only[g7,decide_true,Bool.true_and]
 ·have:k=p.2.2.2.2.2.2.1.2.length:=by omega
  subst this
  refine dY (by simp) ?_
  rw[he];simp only[List.drop_length,List.all_nil];rfl
noncomputable def AW0:Env:=Env.of [(15,.pure BI)]
def AYF:FuncId→Hint:=bV 5 [(6,.inv [.val 4 false (.int .i64)])] (fun _=>aX)
theorem AH7:aR Tryz.prog AW0:=.cons ARZ (.nil _)
def BD5(a0:a8):List T:=[T.v (.string a0.2.2.2.2.2.1.2.2.1)]
def BD6(a0:a8):List T:=[T.v (.string a0.2.2.2.2.2.2.1.2.1)]
def BD7(a0:a8):List T:=[T.v (.string a0.2.2.2.2.2.2.2.2.1)]
def BD8(a0:a8):List T:=[T.v (.string a0.2.2.2.2.2.2.2.2.2)]
def BD9(a0:a8):List T:=[T.v (.string a0.2.2.2.2.2.1.2.1)]
def BEA(a0:a8):List T:=[T.v (.string a0.2.2.2.2.2.2.1.1)]
def BEB(a0:a8):List T:=[T.v (.string a0.2.2.2.2.2.1.1)]
def BEC(a0:a8):List T:=[T.v (.string a0.2.2.2.1.2.2)]
def BED(a0:a8):List T:=[T.v (.string a0.2.2.2.1.1)]
def BEE(a0:a8):List T:=[T.v (.string a0.2.2.1)]
def BEF(a0:a8):List T:=[T.v (.string a0.2.1)]
def BD2(a0:a8):List (List T):=[(BEF a0).reverse, (BEE a0).reverse, (BED a0).reverse, (BEC a0).reverse, (BEB a0).reverse, (BD9 a0).reverse, (BD5 a0).reverse, (BEA a0).reverse, (BD6 a0).reverse, (BD7 a0).reverse, (BD8 a0).reverse]
def BD3(a0:a8):List (List T):=List.map Sy.str.enc a0.2.2.2.2.2.2.1.2.2.2.2
def BD4(a0:a8):List (List T):=List.map Sy.str.enc a0.2.2.2.2.2.2.1.2.2.1
def BEG(y3:ByteArray)(R:T→Prop)(X1:Int×PUnit→Prop)(s2:Int×PUnit):Prop:=aB (decide (200<(↑y3.size:Int))) (R BDC) (X1 (IntKind.i64.wrap (s2.1+1),()))
def QM(a0:a8)(R:T→Prop):Prop:=aB (decide (40<(↑(BD4 a0).length:Int))) (R BDC) (aB (decide (40<(↑(BD3 a0).length:Int))) (R BDC) (aJ BDA (BI [aH true aO a0.2.2.2.2.1]) fun (y0:Bool)=>aB (!y0) (R BDC) (aB (BD4 a0).isEmpty (aB (BD3 a0).isEmpty (a6 (Int×PUnit) (fun X1 s2=>aB (decide (s2.1<(↑11:Int))) (aS Sy.str [(BEF a0),(BEE a0), (BED a0), (BEC a0), (BEB a0), (BD9 a0), (BD5 a0), (BEA a0), (BD6 a0), (BD7 a0), (BD8 a0)] s2.1 fun (y3:ByteArray)=>BEG y3 R X1 s2) (R BDG)) (0,())) (bS (gC 1 (BD3 a0) && decide ((11+(BD3 a0).length)*16 ≤ 140737488355328) && decide (11+(BD3 a0).length ≤ 140737488355328)) (a6 (Int×PUnit) (fun X4 s5=>aB (decide (s5.1 < (↑(RF (BD2 a0) (BD3 a0)).length : Int))) (aS Sy.str ((BEF a0) :: (BEE a0) :: (BED a0) :: (BEC a0) :: (BEB a0) :: (BD9 a0) :: (BD5 a0) :: (BEA a0) :: (BD6 a0) :: (BD7 a0) :: (BD8 a0) :: (BD3 a0)) s5.1 fun (y6:ByteArray)=>nD Sy.str ((BEF a0) :: (BEE a0) :: (BED a0) :: (BEC a0) :: (BEB a0) :: (BD9 a0) :: (BD5 a0) :: (BEA a0) :: (BD6 a0) :: (BD7 a0) :: (BD8 a0) :: (BD3 a0)) (Int.toNat s5.1) 0 fun (y7:ByteArray)=>BEG y7 R X4 s5) (R BDG)) (0,())))) (bS (gC 1 (BD4 a0) && decide ((11+(BD4 a0).length)*16 ≤ 140737488355328) && decide (11+(BD4 a0).length≤140737488355328)) (bS (gC 1 (BD3 a0) && decide (((RF (BD2 a0) (BD4 a0)).length + (BD3 a0).length) * 16 ≤ 140737488355328) && decide ((RF (BD2 a0) (BD4 a0)).length + (BD3 a0).length ≤ 140737488355328)) (a6 (Int×PUnit) (fun X8 s9=>aB (decide (s9.1 < (↑(RF (BD2 a0) (BD4 a0) ++ List.map Sy.str.enc a0.2.2.2.2.2.2.1.2.2.2.2).length : Int))) (aS Sy.str ((BEF a0) :: (BEE a0) :: (BED a0) :: (BEC a0) :: (BEB a0) :: (BD9 a0) :: (BD5 a0) :: (BEA a0) :: (BD6 a0) :: (BD7 a0) :: (BD8 a0) :: ((([]++(BD4 a0)))++(BD3 a0))) s9.1 fun (y10:ByteArray)=>nD Sy.str ((BEF a0) :: (BEE a0) :: (BED a0) :: (BEC a0) :: (BEB a0) :: (BD9 a0) :: (BD5 a0) :: (BEA a0) :: (BD6 a0) :: (BD7 a0) :: (BD8 a0) :: ((([]++(BD4 a0)))++(BD3 a0))) (Int.toNat s9.1) 0 fun (y11:ByteArray)=>BEG y11 R X8 s9) (R BDG)) (0,())))))))
abbrev S0:Sh:=[(true,aU)]
def yQ (l:List ByteArray):Bool:=l.all fun s=>decide ((s.size:Int)≤200)
def u9 (x:a8):List ByteArray:=[fQ x,eTo x,(p9 x).1,(p9 x).2.2,(oU x).1,(oU x).2.1,(oU x).2.2.1,(jO x).1,(jO x).2.1,(kL x).2.1,(kL x).2.2]
def rP (x:a8):Bool:=decide ((x.2.2.2.2.2.2.1.2.2.1.length:Int)≤40)&&(decide ((x.2.2.2.2.2.2.1.2.2.2.2.length:Int)≤40)&&(rO (fE x)&&yQ ((u9 x++x.2.2.2.2.2.2.1.2.2.1)++x.2.2.2.2.2.2.1.2.2.2.2)))
def CG (x:a8):Option T:=some (Sh.enc mD (rP x))
noncomputable def BJ:List T→Option T:=gS S0 CG
theorem AC3 {a0}:BJ [aH true aU a0]=CG (a0):=bD (s:=S0) rfl (a0) rfl
theorem AUS:rA Tryz.prog 5 BJ CG (cB S0) QM:=gF (a1:=(true,aU)) (sp:=CG) (F:=QM) (Hs:=AYF) (f:=5) (k:=8) AH7 aT aW (aL rfl) ⟨_,_,Tryz.func5,rfl⟩ rfl fun _ _=>by kernel_rfl
theorem TW {L:List ByteArray} {rows:List (List T)} {n:Int} (hr:rows=List.map Sy.str.enc L) (hn:n=(L.length:Int)) (hl:L.length≤1000) {Body:(Int×PUnit→Prop)→Int×PUnit→ByteArray→Prop} {A B:Prop}
  (hB:∀ (X:Int×PUnit→Prop) (k:Nat) (h:k<L.length),(¬ ((L[k].size:Int)≤200)→A)→(((L[k].size:Int)≤200)→X (IntKind.i64.wrap ((k:Int)+1),()))→Body X ((k:Int),()) L[k])
  (hA:yQ L=false→A) (hF:yQ L=true→B) :
  a6 (Int×PUnit) (fun X s=>aB (decide (s.1<n)) (aS .str rows s.1 fun y=>Body X s y) B) (0,()):=by
 subst hr
 subst hn
 refine bG L.length (fun k s=>s=((k:Int),())∧yQ L=yQ (L.drop k)) ⟨rfl,rfl⟩ ?_
 rintro X k s hk ⟨rfl,he⟩ hX
 dsimp only
 have he':=he
 unfold yQ at he
 refine b6 (fun hlt=>?_) fun hge=>?_
 ·have hlt:k<L.length:=by omega
  rw[JE hlt] at he
  rw[bA (r:=.str) hlt]
  refine hB X k hlt (fun h=>hA (by unfold yQ;rw[he,decide_eq_false h];rfl)) fun h=>hX _ hlt ⟨?_,?_⟩
  ·rw[show IntKind.i64.wrap ((k:Int)+1)=((k+1:Nat):Int) by rw[bB]<;>omega]
  ·unfold yQ;rw[he,decide_eq_true h];rfl
 ·refine hF ?_
  rw[he',List.drop_eq_nil_of_le (by omega)];rfl
theorem JD {l:List ByteArray}:gC 1 (List.map Sy.str.enc l)=true:=uR (r:=.str) ..
theorem YU {L:List ByteArray} {rows:List (List T)} {k:Nat} {K:ByteArray→Prop} (hr:rows=List.map Sy.str.enc L) (h:k<L.length) (hk:K L[k]):nD Sy.str rows (Int.toNat (k:Int)) 0 K:=by
 subst hr
 rw[Int.toNat_natCast,iW (r:=.str) h]
 exact hk
theorem AR0:aN Tryz.prog 5 BJ:=AUS fun x r h hb=>by
 clear hb
 cases h
 have no:rP x=false→T.v (.bool false)=Sh.enc mD (rP x):=fun h=>by rw[h];rfl
 have yes:rP x=true→T.v (.bool true)=Sh.enc mD (rP x):=fun h=>by rw[h];rfl
 unfold QM BEG BD4 BD3 BD2 BEF BEE BED BEC BEB BEA BD9 BD8 BD7 BD6 BD5 BDG BDC BDA
 simp only[List.length_map]
 refine eR (fun h=>no (by simp[rP,h])) fun g1=>?_
 refine eR (fun h=>no (by simp[rP,h])) fun g2=>?_
 refine aF (s:=mD) (y:=rO (fE x)) (AC2 ..) ?_
 refine fB (fun h=>no (by unfold rP;rw[h,Bool.false_and,Bool.and_false,Bool.and_false])) fun g3=>?_
 have hn:∀ {L},L=(u9 x++x.2.2.2.2.2.2.1.2.2.1)++x.2.2.2.2.2.2.1.2.2.2.2→yQ L=false→T.v (.bool false)=Sh.enc mD (rP x):=fun e h=>no (by subst e;unfold rP;rw[h,Bool.and_false,Bool.and_false,Bool.and_false])
 have hy:∀ {L},L=(u9 x++x.2.2.2.2.2.2.1.2.2.1)++x.2.2.2.2.2.2.1.2.2.2.2→yQ L=true→T.v (.bool true)=Sh.enc mD (rP x):=fun e h=>yes (by
  subst e
  unfold rP
  rw[decide_eq_true g1,decide_eq_true g2,g3,h];rfl)
 have hf:(u9 x).length=11:=rfl
 refine sZ (fun h1=>?_) fun h1=>?_
 ·have e1:x.2.2.2.2.2.2.1.2.2.1=[]:=by simpa using h1
  refine sZ (fun h2=>?_) fun h2=>?_
  ·have e2:x.2.2.2.2.2.2.1.2.2.2.2=[]:=by simpa using h2
   have eL:u9 x=(u9 x++x.2.2.2.2.2.2.1.2.2.1)++x.2.2.2.2.2.2.1.2.2.2.2:=by rw[e1,e2,List.append_nil,List.append_nil]
   exact TW (L:=u9 x) rfl rfl (by rw[hf];omega) (fun X k h ha hc=>eR ha hc) (hn eL) (hy eL)
  ·have eL:u9 x++x.2.2.2.2.2.2.1.2.2.2.2=(u9 x++x.2.2.2.2.2.2.1.2.2.1)++x.2.2.2.2.2.2.1.2.2.2.2:=by rw[e1,List.append_nil]
   refine ⟨?_,?_⟩
   ·rw[Bool.and_eq_true,Bool.and_eq_true]
    exact ⟨⟨JD,decide_eq_true (by omega)⟩,decide_eq_true (by omega)⟩
   exact TW (L:=u9 x++x.2.2.2.2.2.2.1.2.2.2.2) rfl (by simp[RF,u9]) (by rw[List.length_append,hf];omega) (fun X k h ha hc=>YU (L:=u9 x++x.2.2.2.2.2.2.1.2.2.2.2) rfl h (eR ha hc)) (hn eL) (hy eL)
 ·have hr:∀ {A B:List (List T)},A=List.map Sy.str.enc (u9 x)++List.map Sy.str.enc x.2.2.2.2.2.2.1.2.2.1++List.map Sy.str.enc x.2.2.2.2.2.2.1.2.2.2.2→A=List.map Sy.str.enc ((u9 x++x.2.2.2.2.2.2.1.2.2.1)++x.2.2.2.2.2.2.1.2.2.2.2):=fun h=>by rw[h,List.map_append,List.map_append]
  refine ⟨?_,⟨?_,?_⟩⟩
  ·rw[Bool.and_eq_true,Bool.and_eq_true]
   exact ⟨⟨JD,decide_eq_true (by omega)⟩,decide_eq_true (by omega)⟩
  ·rw[Bool.and_eq_true,Bool.and_eq_true]
   exact ⟨⟨JD,decide_eq_true (by simp[RF];omega)⟩,decide_eq_true (by simp[RF];omega)⟩
  exact TW (L:=(u9 x++x.2.2.2.2.2.2.1.2.2.1)++x.2.2.2.2.2.2.1.2.2.2.2) (by rw[List.map_append,List.map_append];rfl) (by simp[RF,u9];try omega) (by rw[List.length_append,List.length_append,hf];omega) (fun X k h ha hc=>YU (L:=(u9 x++x.2.2.2.2.2.2.1.2.2.1)++x.2.2.2.2.2.2.1.2.2.2.2) (by rw[List.map_append,List.map_append];rfl) h (eR ha hc)) (hn rfl) (hy rfl)
noncomputable def A63:Env:=Env.of []
def A7M:FuncId→Hint:=fun _=>aX
theorem AXD:aR Tryz.prog A63:=.nil _
def AOI(a0:aC)(a1:aI)(a2:a8)(R:T→Prop):Prop:=aB (decide (a2.1=1)) (aB (decide (a2.1=1)) (pN 72) (pN 72)) (aB (decide (a2.1=2)) (aB (decide (a2.1=1)) (pN 72) (pN 72)) (aB (decide (a2.1=3)) (aB (decide (a2.1=3)) (pN 72) (pN 72)) (aB (decide (a2.1=4)) (aB (decide (a2.1=3)) (pN 72) (pN 72)) (aB (decide (a2.1=5)) (pN 72) (aB (decide (a2.1=6)) (pN 72) (aB (decide (a2.1=7)) (aB (decide (a2.1=7)) (pN 72) (pN 72)) (aB (decide (a2.1=8)) (aB (decide (a2.1=7)) (pN 72) (pN 72)) (aB (decide (a2.1=9)) (aB (decide (a2.1=9)) (pN 72) (pN 72)) (aB (decide (a2.1=10)) (aB (decide (a2.1=9)) (pN 72) (pN 72)) (aB (decide (a2.1=11)) (pN 72) (aB (decide (a2.1=12)) (pN 72) (R (T.cC [T.agg BC7, T.v (.int .i64 10)])))))))))))))
abbrev AVX:Sh:=[(true,aE),(true,aK),(true,aU)]
def E2 (x:aC×aI×a8):Option T:=if 1≤x.2.2.1∧x.2.2.1≤12 then none else some (Sh.enc [(true,aE),(false,.int .i64)] (CX,10))
noncomputable def ASD:List T→Option T:=gS AVX E2
theorem ASE {a0 a1 a2}:ASD [aH true aE a0,aH true aK a1,aH true aU a2]=E2 (a0,a1,a2):=bD (s:=AVX) rfl (a0,a1,a2) rfl
theorem A5C:Of3 Tryz.prog 13 ASD E2 (cB AVX) AOI:=YE (a1:=(true,aE)) (a2:=(true,aK)) (a3:=(true,aU)) (sp:=E2) (F:=AOI) (Hs:=A7M) (f:=13) (k:=2) AXD aT aW (aL rfl) ⟨_,_,Tryz.func13,rfl⟩ rfl fun _ _ _ _=>by kernel_rfl
theorem A3L:aN Tryz.prog 13 ASD:=A5C fun d m x r h hb=>by
 clear hb
 unfold E2 at h
 split at h
 ·cases h
 rename_i hk
 cases h
 have hk:¬ (1≤x.1∧x.1≤12):=hk
 unfold AOI BC7
 refine b6 (fun h=>absurd (by omega) hk) fun _=>?_
 refine b6 (fun h=>absurd (by omega) hk) fun _=>?_
 refine b6 (fun h=>absurd (by omega) hk) fun _=>?_
 refine b6 (fun h=>absurd (by omega) hk) fun _=>?_
 refine b6 (fun h=>absurd (by omega) hk) fun _=>?_
 refine b6 (fun h=>absurd (by omega) hk) fun _=>?_
 refine b6 (fun h=>absurd (by omega) hk) fun _=>?_
 refine b6 (fun h=>absurd (by omega) hk) fun _=>?_
 refine b6 (fun h=>absurd (by omega) hk) fun _=>?_
 refine b6 (fun h=>absurd (by omega) hk) fun _=>?_
 refine b6 (fun h=>absurd (by omega) hk) fun _=>?_
 refine b6 (fun h=>absurd (by omega) hk) fun _=>?_
 rfl
def HJ (x:aC×aI×a8):List T:=[aH true aE x.1,aH true aK x.2.1,aH true aU x.2.2]
noncomputable def CC (x:aC×aI×a8):Option T:=if x.2.2.1=5∨x.2.2.1=6 then none else match okX x.1 x.2.2 with
 | true=>some (Sh.enc [(true,aE),(false,.int .i64)] (bH x.1 x.2.1 x.2.2))
 | false=>none
noncomputable def wV:List T→Option T:=gA HJ CC
theorem T7 (x y:aC×aI×a8) (h:HJ x=HJ y):x=y:=by
 simp only[HJ,List.cons.injEq,and_true] at h
 obtain ⟨h1,h2,h3⟩:=h
 exact Prod.ext (bX (r:=aE) rfl h1) (Prod.ext (bX (r:=aK) rfl h2) (bX (r:=aU) rfl h3))
theorem AC0 (d:aC) (m:aI) (x:a8):wV [aH true aE d,aH true aK m,aH true aU x]=CC (d,m,x):=e8 T7 (d,m,x)
theorem ARV:aN Tryz.prog 13 wV:=⟨ARU.entry,fun w own args vs r hG ho ha hg=>by
 obtain ⟨⟨d,m,k,x⟩,rfl,h⟩:=RR hg
 unfold CC at h
 split at h
 ·cases h
 rename_i hk
 dsimp only at hk h
 clear hg
 by_cases c1:k=1
 ·subst c1;exact ARU.calls w own _ vs r hG ho ha ((ASG d m x).trans h)
 by_cases c2:k=2
 ·subst c2;exact A3M.calls w own _ vs r hG ho ha ((ASI d m x).trans h)
 by_cases c3:k=3
 ·subst c3;exact A3N.calls w own _ vs r hG ho ha ((ASK d m x).trans h)
 by_cases c4:k=4
 ·subst c4;exact A3O.calls w own _ vs r hG ho ha ((ASM d m x).trans h)
 by_cases c7:k=7
 ·subst c7;exact A3P.calls w own _ vs r hG ho ha ((ASO d m x).trans h)
 by_cases c8:k=8
 ·subst c8;exact A3Q.calls w own _ vs r hG ho ha ((ASQ d m x).trans h)
 by_cases c9:k=9
 ·subst c9;exact A3R.calls w own _ vs r hG ho ha ((ASS d m x).trans h)
 by_cases c10:k=10
 ·subst c10;exact AZI.calls w own _ vs r hG ho ha ((AKL d m x).trans h)
 by_cases c11:k=11
 ·subst c11;exact AZJ.calls w own _ vs r hG ho ha ((AKM d m x).trans h)
 by_cases c12:k=12
 ·subst c12;exact AZK.calls w own _ vs r hG ho ha ((AKN d m x).trans h)
 have hn:¬ (1≤k∧k≤12):=by omega
 have hr:some (Sh.enc [(true,aE),(false,.int .i64)] (bH d m (k,x)))=some r:=by
  split at h
  ·exact h
  ·cases h
 refine A3L.calls w own _ vs r hG ho ha ((ASE (a0:=d) (a1:=m) (a2:=(k,x))).trans ?_)
 rw[←hr]
 unfold E2 bH
 rw[if_neg hn,if_pos hn]⟩
end Go.Pv
namespace Go.Pv
open Go Go.Proofs
def D3:List T→Option T:=fun _=>none
theorem ACR:aN Tryz.prog 42 D3:=⟨⟨_,Tryz.func42,rfl,rfl⟩,fun _ _ _ _ _ _ _ _ h=>by cases h⟩
def D4:List T→Option T:=fun _=>none
theorem ACS:aN Tryz.prog 43 D4:=⟨⟨_,Tryz.func43,rfl,rfl⟩,fun _ _ _ _ _ _ _ _ h=>by cases h⟩
def D5:List T→Option T:=fun _=>none
theorem ACT:aN Tryz.prog 44 D5:=⟨⟨_,Tryz.func44,rfl,rfl⟩,fun _ _ _ _ _ _ _ _ h=>by cases h⟩
def sW:List T→Option T:=fun _=>none
theorem NA:aN Tryz.prog 45 sW:=⟨⟨_,Tryz.func45,rfl,rfl⟩,fun _ _ _ _ _ _ _ _ h=>by cases h⟩
def D2:List T→Option T:=fun _=>none
theorem ACQ:aN Tryz.prog 46 D2:=⟨⟨_,Tryz.func46,rfl,rfl⟩,fun _ _ _ _ _ _ _ _ h=>by cases h⟩
noncomputable def AM2:Env:=Env.of [(40,.pure vL),(41,.pure vH),(42,.pure D3),(43,.pure D4),(44,.pure D5),(45,.pure sW),(46,.pure D2)]
def AP1:FuncId→Hint:=fun _=>aX
theorem Z6:aR Tryz.prog AM2:=.cons AJ6 (.cons AJ3 (.cons ACR (.cons ACS (.cons ACT (.cons NA (.cons ACQ (.nil _)))))))
def BEH(y0:Int):T:=T.v (.int .i64 y0)
def II(a0:aC)(a1:aI)(R:T→Prop):Prop:=aJ BC9 (vL [aH true aK a1]) fun (y0:Int)=>aB (!decide (y0=0)) (R (BEH y0)) (aJ BC9 (vH [aH true aE a0]) fun (y1:Int)=>aB (!decide (y1=0)) (R (BEH y1)) (aJ BC9 (D3 [aH true aE a0]) fun (y2:Int)=>aB (!decide (y2=0)) (R (BEH y2)) (aJ BC9 (D4 [aH true aE a0,aH true aK a1]) fun (y3:Int)=>aB (!decide (y3=0)) (R (BEH y3)) (aJ BC9 (D5 [aH true aE a0]) fun (y4:Int)=>aB (!decide (y4=0)) (R (BEH y4)) (aJ BC9 (sW [aH true aE a0]) fun (y5:Int)=>aB (!decide (y5=0)) (R (BEH y5)) (aJ BC9 (D2 [aH true aE a0]) fun (y6:Int)=>R (BEH y6)))))))
abbrev LW:Sh:=[(true,aE),(true,aK)]
def RA (d:aC) (m:aI):Int:=if kT m=0 then (if isName d.1=false then 6 else e7 d) else kT m
def oL (x:aC×aI):Option T:=match eQ x.1 with
 | false=>wB x.1 (T.v (Value.int .i64 (RA x.1 x.2)))
 | true=>none
noncomputable def vG:List T→Option T:=gS LW oL
theorem WH {a0 a1}:vG [aH true aE a0,aH true aK a1]=oL (a0,a1):=bD (s:=LW) rfl (a0,a1) rfl
theorem ALK:uH Tryz.prog 14 vG oL (cB LW) II:=iK (a1:=(true,aE)) (a2:=(true,aK)) (sp:=oL) (F:=II) (Hs:=AP1) (f:=14) (k:=8) Z6 aT aW (aL rfl) ⟨_,_,Tryz.func14,rfl⟩ rfl fun _ _ _=>by kernel_rfl
theorem OG {d:aC} (h:eQ d=false):¬ e7 d=0:=by
 unfold e7
 split
 ·decide
 ·first
  | decide
  | (rw[if_pos h];decide)
theorem AY1 {d:aC} {m:aI} (h:eQ d=false):¬ RA d m=0:=by
 unfold RA
 split
 ·split
  ·decide
  ·exact OG h
 ·assumption
theorem AJY:aN Tryz.prog 14 vG:=ALK fun d m r h hb=>by
 clear hb
 have hi:eQ d=false∧wB d (T.v (Value.int .i64 (RA d m)))=some r:=by
  unfold oL at h
  split at h
  ·rename_i hc;exact ⟨hc,h⟩
  ·cases h
 obtain ⟨hi,h⟩:=hi
 obtain ⟨hu,rfl⟩:=EG h
 clear h
 have is:∀ {n:Int},RA d m=n→T.v (.int .i64 n)=T.v (.int .i64 (RA d m)):=fun h=>by rw[h]
 unfold II BEH BC9
 refine aF (s:=[(false,.int .i64)]) (y:=kT m) (WU ..) ?_
 refine jB (fun h=>is (by unfold RA;rw[if_neg h])) fun h1=>?_
 refine aF (s:=[(false,.int .i64)]) (y:=if isName d.1=false then 6 else e7 d) ((WM ..).trans (EH _ hu)) ?_
 refine jB (fun h=>is (by unfold RA;rw[if_pos h1])) fun h2=>absurd h2 ?_
 split
 ·decide
 ·exact OG hi
end Go.Pv
namespace Go.Pv
open Go Go.Proofs
theorem ARX:eE Tryz.prog 349 (pK 1 8):=jE aT aW ⟨_,_,Tryz.func349,rfl⟩ ⟨fun R=>by kernel_rfl,fun fl R=>by kernel_rfl,fun fl a rows R=>by kernel_rfl⟩
theorem N4:eE Tryz.prog 77 (pK 3 40):=jE aT aW ⟨_,_,Tryz.func77,rfl⟩ ⟨fun R=>by kernel_rfl,fun fl R=>by kernel_rfl,fun fl a rows R=>by kernel_rfl⟩
theorem N7:eE Tryz.prog 78 (pK 6 72):=jE aT aW ⟨_,_,Tryz.func78,rfl⟩ ⟨fun R=>by kernel_rfl,fun fl R=>by kernel_rfl,fun fl a rows R=>by kernel_rfl⟩
theorem N3:eE Tryz.prog 79 (pK 3 40):=jE aT aW ⟨_,_,Tryz.func79,rfl⟩ ⟨fun R=>by kernel_rfl,fun fl R=>by kernel_rfl,fun fl a rows R=>by kernel_rfl⟩
theorem AF1:eE Tryz.prog 75 (pK 2 16):=jE aT aW ⟨_,_,Tryz.func75,rfl⟩ ⟨fun R=>by kernel_rfl,fun fl R=>by kernel_rfl,fun fl a rows R=>by kernel_rfl⟩
theorem VY:eE Tryz.prog 76 (pK 1 24):=jE aT aW ⟨_,_,Tryz.func76,rfl⟩ ⟨fun R=>by kernel_rfl,fun fl R=>by kernel_rfl,fun fl a rows R=>by kernel_rfl⟩
theorem N6:eE Tryz.prog 80 (pK 18 208):=jE aT aW ⟨_,_,Tryz.func80,rfl⟩ ⟨fun R=>by kernel_rfl,fun fl R=>by kernel_rfl,fun fl a rows R=>by kernel_rfl⟩
theorem N5:eE Tryz.prog 81 (pK 5 88):=jE aT aW ⟨_,_,Tryz.func81,rfl⟩ ⟨fun R=>by kernel_rfl,fun fl R=>by kernel_rfl,fun fl a rows R=>by kernel_rfl⟩
theorem VZ:eE Tryz.prog 237 (pK 1 16):=jE aT aW ⟨_,_,Tryz.func237,rfl⟩ ⟨fun R=>by kernel_rfl,fun fl R=>by kernel_rfl,fun fl a rows R=>by kernel_rfl⟩
def A12:FuncId→Bool:=fun f=>[307,86,251,38,157,164].contains f
noncomputable def ATY:Env:=Env.of [(306,.pure vC),(349,.fresh (pK 1 8)),(77,.fresh (pK 3 40)),(78,.fresh (pK 6 72)),(79,.fresh (pK 3 40)),(75,.fresh (pK 2 16)),(76,.fresh (pK 1 24)),(80,.fresh (pK 18 208)),(81,.fresh (pK 5 88)),(237,.fresh (pK 1 16)),(5000000000+54,.mark)]
theorem AK7:aR Tryz.prog ATY:=aR.cons (x:=.pure vC) A9 (aR.cons (x:=.fresh (pK 1 8)) ARX (aR.cons (x:=.fresh (pK 3 40)) N4 (aR.cons (x:=.fresh (pK 6 72)) N7 (aR.cons (x:=.fresh (pK 3 40)) N3 (aR.cons (x:=.fresh (pK 2 16)) AF1 (aR.cons (x:=.fresh (pK 1 24)) VY (aR.cons (x:=.fresh (pK 18 208)) N6 (aR.cons (x:=.fresh (pK 5 88)) N5 (aR.cons (x:=.fresh (pK 1 16)) VZ (aR.cons (x:=.mark) trivial (aR.nil _)))))))))))
noncomputable def gEd:List T→Option T:=AVW Tryz.prog 400 A12 ATY 40 13
theorem A30:aN Tryz.prog 13 gEd:=AD9 aT aW 400 A12 AK7 40 (AMK (k:=39) (fn:=_) (c:=_) (by kernel_rfl) Tryz.func13 rfl (by kernel_rfl))
end Go.Pv
namespace Go.Pv
open Go Go.Proofs
def AWF:Value→Value→Bool
 | .int k a,.int j b=>decide (k=j)&&decide (a=b)
 | .string a,.string b=>decide (a=b)
 | .bool a,.bool b=>a == b
 | .slice none a b,.slice none c d=>a == c&&b == d
 | _,_=>false
def ABR {α:Type} (f:α→α→Bool):List α→List α→Bool
 | [],[]=>true
 | a::l,b::m=>f a b&&ABR f l m
 | _,_=>false
def PR:Nat→T→T→Bool
 | n+1,.v a,.v b=>AWF a b
 | n+1,.agg l,.agg m=>ABR (PR n) l m
 | n+1,.sl f l,.sl g m=>(f == g)&&ABR (ABR (PR n)) l m
 | _,_,_=>false
def AKJ:List (List T×T)→List T→Option T
 | [],_=>none
 | (A,r)::l,args=>match ABR (PR 20) args A with
  | true=>some r
  | false=>AKJ l args
theorem AWG {a b:Value} (h:AWF a b=true):a=b:=by
 unfold AWF at h
 split at h
 ·simp only[Bool.and_eq_true,decide_eq_true_eq] at h
  rw[h.1,h.2]
 ·rw[of_decide_eq_true h]
 ·rw[eq_of_beq h]
 ·simp only[Bool.and_eq_true,beq_iff_eq] at h
  rw[h.1,h.2]
 ·cases h
theorem AN {α:Type} {f:α→α→Bool} (hf:∀ a b,f a b=true→a=b):∀ l m,ABR f l m=true→l=m
 | [],[],_=>rfl
 | [],_::_,h=>by cases h
 | _::_,[],h=>by cases h
 | a::l,b::m,h=>by
  simp only[ABR,Bool.and_eq_true] at h
  rw[hf a b h.1,AN hf l m h.2]
theorem MJ:∀ (n:Nat) (a b:T),PR n a b=true→a=b
 | 0,_,_,h=>by simp[PR] at h
 | n+1,a,b,h=>by
  unfold PR at h
  split at h
  ·rename_i e;rw[AWG h]
  ·rename_i e;cases e;rw[AN (MJ n) _ _ h]
  ·rename_i e;cases e
   simp only[Bool.and_eq_true,beq_iff_eq] at h
   rw[h.1,AN (AN (MJ n)) _ _ h.2]
  ·cases h
theorem OI:∀ {l:List (List T×T)} {args:List T} {r:T},AKJ l args=some r→(args,r)∈l
 | [],_,_,h=>by cases h
 | (A,q)::l,args,r,h=>by
  unfold AKJ at h
  split at h
  ·rename_i e
   cases h
   rw[AN (MJ 20) _ _ e]
   exact List.mem_cons_self
  ·exact List.mem_cons_of_mem _ (OI h)
theorem AKK {P:Program} {f:FuncId} {g:List T→Option T} (hg:aN P f g) {l:List (List T×T)} (h:∀ x∈l,g x.1=some x.2):aN P f (AKJ l):=⟨hg.entry,fun w own args vs r hG ho ha hr=>hg.calls w own args vs r hG ho ha (h _ (OI hr))⟩
def A8H:List T:=[T.agg [T.v (.string { data:=#[72] }),T.sl false [[T.v (.string { data:=#[65] }),T.v (.int .i64 2),T.v (.string { data:=#[66] })],[T.v (.string { data:=#[66] }),T.v (.int .i64 1),T.v (.string { data:=#[] })]],T.sl false [[T.v (.string { data:=#[80] }),T.v (.int .i64 1),T.v (.int .i64 4),T.v (.string { data:=#[65] }),T.v (.string { data:=#[] }),T.v (.int .i64 0),T.v (Value.slice none 0 0),T.v (Value.slice none 0 0),T.v (.string { data:=#[] }),T.v (.int .i64 0),T.v (.int .i64 7),T.v (.int .i64 0),T.v (.int .i64 0),T.v (.int .i64 0),T.v (.int .i64 0),T.v (.int .i64 0),T.v (.int .i64 0),T.v (.int .i64 0)]],T.sl false [],T.sl false [],T.sl false []],T.agg [T.v (Value.slice none 0 0),T.v (Value.slice none 0 0)],T.agg [T.v (.int .i64 5),T.v (.string { data:=#[] }),T.v (.string { data:=#[] }),T.v (.string { data:=#[] }),T.v (.int .i64 0),T.v (.string { data:=#[] }),T.v (.string { data:=#[80] }),T.v (.int .i64 0),T.v (.int .i64 4),T.v (.string { data:=#[65] }),T.v (.string { data:=#[] }),T.v (.int .i64 0),T.v (Value.slice none 0 0),T.v (Value.slice none 0 0),T.v (.string { data:=#[] }),T.v (.int .i64 0),T.v (.int .i64 9),T.v (.int .i64 0),T.v (.int .i64 0),T.v (.int .i64 0),T.v (.int .i64 0),T.v (.int .i64 0),T.v (.int .i64 0),T.v (.int .i64 0),T.v (.string { data:=#[] }),T.v (.string { data:=#[] }),T.v (.string { data:=#[] }),T.v (.int .i64 0),T.v (.int .i64 0),T.v (.int .i64 0),T.v (.string { data:=#[] }),T.v (.string { data:=#[] }),T.v (Value.slice none 0 0),T.v (.int .i64 0),T.v (Value.slice none 0 0),T.v (.int .i64 0),T.v (.string { data:=#[] }),T.v (.string { data:=#[] })]]
def A8M:T:=Go.Pv.T.cC [Go.Pv.T.agg [Go.Pv.T.v (Go.Value.string { data:=#[72] }),Go.Pv.T.sl false [[Go.Pv.T.v (Go.Value.string { data:=#[65] }),Go.Pv.T.v (Go.Value.int Go.IntKind.i64 2),Go.Pv.T.v (Go.Value.string { data:=#[66] })],[Go.Pv.T.v (Go.Value.string { data:=#[66] }),Go.Pv.T.v (Go.Value.int Go.IntKind.i64 1),Go.Pv.T.v (Go.Value.string { data:=#[] })]],Go.Pv.T.sl false [[Go.Pv.T.v (Go.Value.string { data:=#[80] }),Go.Pv.T.v (Go.Value.int Go.IntKind.i64 (Go.IntKind.i64.wrap (1+1))),Go.Pv.T.v (Go.Value.int Go.IntKind.i64 4),Go.Pv.T.v (Go.Value.string { data:=#[65] }),Go.Pv.T.v (Go.Value.string { data:=#[] }),Go.Pv.T.v (Go.Value.int Go.IntKind.i64 0),Go.Pv.T.sl false [],Go.Pv.T.sl false [],Go.Pv.T.v (Go.Value.string { data:=#[] }),Go.Pv.T.v (Go.Value.int Go.IntKind.i64 0),Go.Pv.T.v (Go.Value.int Go.IntKind.i64 9),Go.Pv.T.v (Go.Value.int Go.IntKind.i64 0),Go.Pv.T.v (Go.Value.int Go.IntKind.i64 0),Go.Pv.T.v (Go.Value.int Go.IntKind.i64 0),Go.Pv.T.v (Go.Value.int Go.IntKind.i64 0),Go.Pv.T.v (Go.Value.int Go.IntKind.i64 0),Go.Pv.T.v (Go.Value.int Go.IntKind.i64 0),Go.Pv.T.v (Go.Value.int Go.IntKind.i64 0)]],Go.Pv.T.sl false [],Go.Pv.T.sl false [],Go.Pv.T.sl false []],Go.Pv.T.v (Go.Value.int Go.IntKind.i64 0)]
theorem A9Y:gEd A8H=some A8M:=by kernel_rfl
def A8I:List T:=[T.agg [T.v (.string { data:=#[72] }),T.sl false [[T.v (.string { data:=#[65] }),T.v (.int .i64 2),T.v (.string { data:=#[66] })],[T.v (.string { data:=#[66] }),T.v (.int .i64 1),T.v (.string { data:=#[] })]],T.sl false [[T.v (.string { data:=#[80] }),T.v (.int .i64 (IntKind.i64.wrap (1+1))),T.v (.int .i64 4),T.v (.string { data:=#[65] }),T.v (.string { data:=#[] }),T.v (.int .i64 0),T.sl false [],T.sl false [],T.v (.string { data:=#[] }),T.v (.int .i64 0),T.v (.int .i64 9),T.v (.int .i64 0),T.v (.int .i64 0),T.v (.int .i64 0),T.v (.int .i64 0),T.v (.int .i64 0),T.v (.int .i64 0),T.v (.int .i64 0)]],T.sl false [],T.sl false [],T.sl false []],T.agg [T.v (Value.slice none 0 0),T.v (Value.slice none 0 0)],T.agg [T.v (.int .i64 5),T.v (.string { data:=#[] }),T.v (.string { data:=#[] }),T.v (.string { data:=#[] }),T.v (.int .i64 0),T.v (.string { data:=#[] }),T.v (.string { data:=#[80] }),T.v (.int .i64 0),T.v (.int .i64 4),T.v (.string { data:=#[65] }),T.v (.string { data:=#[] }),T.v (.int .i64 0),T.sl false [],T.sl false [],T.v (.string { data:=#[] }),T.v (.int .i64 0),T.v (.int .i64 7),T.v (.int .i64 0),T.v (.int .i64 0),T.v (.int .i64 0),T.v (.int .i64 0),T.v (.int .i64 0),T.v (.int .i64 0),T.v (.int .i64 0),T.v (.string { data:=#[] }),T.v (.string { data:=#[] }),T.v (.string { data:=#[] }),T.v (.int .i64 0),T.v (.int .i64 0),T.v (.int .i64 0),T.v (.string { data:=#[] }),T.v (.string { data:=#[] }),T.sl false [],T.v (.int .i64 0),T.sl false [],T.v (.int .i64 0),T.v (.string { data:=#[] }),T.v (.string { data:=#[] })]]
def A8N:T:=Go.Pv.T.cC [Go.Pv.T.agg [Go.Pv.T.v (Go.Value.string { data:=#[72] }),Go.Pv.T.sl false [[Go.Pv.T.v (Go.Value.string { data:=#[65] }),Go.Pv.T.v (Go.Value.int Go.IntKind.i64 2),Go.Pv.T.v (Go.Value.string { data:=#[66] })],[Go.Pv.T.v (Go.Value.string { data:=#[66] }),Go.Pv.T.v (Go.Value.int Go.IntKind.i64 1),Go.Pv.T.v (Go.Value.string { data:=#[] })]],Go.Pv.T.sl false [[Go.Pv.T.v (Go.Value.string { data:=#[80] }),Go.Pv.T.v (Go.Value.int Go.IntKind.i64 (Go.IntKind.i64.wrap (Go.IntKind.i64.wrap (1+1)+1))),Go.Pv.T.v (Go.Value.int Go.IntKind.i64 4),Go.Pv.T.v (Go.Value.string { data:=#[65] }),Go.Pv.T.v (Go.Value.string { data:=#[] }),Go.Pv.T.v (Go.Value.int Go.IntKind.i64 0),Go.Pv.T.sl false [],Go.Pv.T.sl false [],Go.Pv.T.v (Go.Value.string { data:=#[] }),Go.Pv.T.v (Go.Value.int Go.IntKind.i64 0),Go.Pv.T.v (Go.Value.int Go.IntKind.i64 7),Go.Pv.T.v (Go.Value.int Go.IntKind.i64 0),Go.Pv.T.v (Go.Value.int Go.IntKind.i64 0),Go.Pv.T.v (Go.Value.int Go.IntKind.i64 0),Go.Pv.T.v (Go.Value.int Go.IntKind.i64 0),Go.Pv.T.v (Go.Value.int Go.IntKind.i64 0),Go.Pv.T.v (Go.Value.int Go.IntKind.i64 0),Go.Pv.T.v (Go.Value.int Go.IntKind.i64 0)]],Go.Pv.T.sl false [],Go.Pv.T.sl false [],Go.Pv.T.sl false []],Go.Pv.T.v (Go.Value.int Go.IntKind.i64 0)]
theorem A9Z:gEd A8I=some A8N:=by kernel_rfl
def A8J:List T:=[T.agg [T.v (.string { data:=#[72] }),T.sl false [[T.v (.string { data:=#[65] }),T.v (.int .i64 2),T.v (.string { data:=#[66] })],[T.v (.string { data:=#[66] }),T.v (.int .i64 1),T.v (.string { data:=#[] })]],T.sl false [[T.v (.string { data:=#[80] }),T.v (.int .i64 1),T.v (.int .i64 4),T.v (.string { data:=#[65] }),T.v (.string { data:=#[] }),T.v (.int .i64 0),T.v (Value.slice none 0 0),T.v (Value.slice none 0 0),T.v (.string { data:=#[] }),T.v (.int .i64 0),T.v (.int .i64 7),T.v (.int .i64 0),T.v (.int .i64 0),T.v (.int .i64 0),T.v (.int .i64 0),T.v (.int .i64 0),T.v (.int .i64 0),T.v (.int .i64 0)]],T.sl false [],T.sl false [],T.sl false []],T.agg [T.v (Value.slice none 0 0),T.v (Value.slice none 0 0)],T.agg [T.v (.int .i64 2),T.v (.string { data:=#[65] }),T.v (.string { data:=#[] }),T.v (.string { data:=#[] }),T.v (.int .i64 0),T.v (.string { data:=#[] }),T.v (.string { data:=#[] }),T.v (.int .i64 0),T.v (.int .i64 0),T.v (.string { data:=#[] }),T.v (.string { data:=#[] }),T.v (.int .i64 0),T.v (Value.slice none 0 0),T.v (Value.slice none 0 0),T.v (.string { data:=#[] }),T.v (.int .i64 0),T.v (.int .i64 0),T.v (.int .i64 0),T.v (.int .i64 0),T.v (.int .i64 0),T.v (.int .i64 0),T.v (.int .i64 0),T.v (.int .i64 0),T.v (.int .i64 0),T.v (.string { data:=#[] }),T.v (.string { data:=#[] }),T.v (.string { data:=#[] }),T.v (.int .i64 0),T.v (.int .i64 0),T.v (.int .i64 0),T.v (.string { data:=#[] }),T.v (.string { data:=#[] }),T.v (Value.slice none 0 0),T.v (.int .i64 0),T.v (Value.slice none 0 0),T.v (.int .i64 0),T.v (.string { data:=#[] }),T.v (.string { data:=#[] })]]
def A8O:T:=Go.Pv.T.cC [Go.Pv.T.agg [Go.Pv.T.v (Go.Value.string { data:=#[] }),Go.Pv.T.sl false [],Go.Pv.T.sl false [],Go.Pv.T.sl false [],Go.Pv.T.sl false [],Go.Pv.T.sl false []],Go.Pv.T.v (Go.Value.int Go.IntKind.i64 34)]
theorem A90:gEd A8J=some A8O:=by kernel_rfl
def A8K:List T:=[T.agg [T.v (.string { data:=#[72] }),T.sl false [[T.v (.string { data:=#[65] }),T.v (.int .i64 2),T.v (.string { data:=#[66] })],[T.v (.string { data:=#[66] }),T.v (.int .i64 1),T.v (.string { data:=#[] })]],T.sl false [[T.v (.string { data:=#[80] }),T.v (.int .i64 1),T.v (.int .i64 4),T.v (.string { data:=#[65] }),T.v (.string { data:=#[] }),T.v (.int .i64 0),T.v (Value.slice none 0 0),T.v (Value.slice none 0 0),T.v (.string { data:=#[] }),T.v (.int .i64 0),T.v (.int .i64 7),T.v (.int .i64 0),T.v (.int .i64 0),T.v (.int .i64 0),T.v (.int .i64 0),T.v (.int .i64 0),T.v (.int .i64 0),T.v (.int .i64 0)]],T.sl false [],T.sl false [],T.sl false []],T.agg [T.v (Value.slice none 0 0),T.v (Value.slice none 0 0)],T.agg [T.v (.int .i64 12),T.v (.string { data:=#[65] }),T.v (.string { data:=#[] }),T.v (.string { data:=#[] }),T.v (.int .i64 0),T.v (.string { data:=#[] }),T.v (.string { data:=#[] }),T.v (.int .i64 0),T.v (.int .i64 0),T.v (.string { data:=#[] }),T.v (.string { data:=#[] }),T.v (.int .i64 0),T.v (Value.slice none 0 0),T.v (Value.slice none 0 0),T.v (.string { data:=#[] }),T.v (.int .i64 0),T.v (.int .i64 0),T.v (.int .i64 0),T.v (.int .i64 0),T.v (.int .i64 0),T.v (.int .i64 0),T.v (.int .i64 0),T.v (.int .i64 0),T.v (.int .i64 0),T.v (.string { data:=#[] }),T.v (.string { data:=#[] }),T.v (.string { data:=#[] }),T.v (.int .i64 0),T.v (.int .i64 0),T.v (.int .i64 0),T.v (.string { data:=#[] }),T.v (.string { data:=#[] }),T.v (Value.slice none 0 0),T.v (.int .i64 0),T.v (Value.slice none 0 0),T.v (.int .i64 0),T.v (.string { data:=#[] }),T.v (.string { data:=#[] })]]
def A8P:T:=Go.Pv.T.cC [Go.Pv.T.agg [Go.Pv.T.v (Go.Value.string { data:=#[] }),Go.Pv.T.sl false [],Go.Pv.T.sl false [],Go.Pv.T.sl false [],Go.Pv.T.sl false [],Go.Pv.T.sl false []],Go.Pv.T.v (Go.Value.int Go.IntKind.i64 2)]
theorem A91:gEd A8K=some A8P:=by kernel_rfl
def A8L:List T:=[T.agg [T.v (.string { data:=#[72] }),T.sl false [[T.v (.string { data:=#[65] }),T.v (.int .i64 2),T.v (.string { data:=#[66] })],[T.v (.string { data:=#[66] }),T.v (.int .i64 1),T.v (.string { data:=#[] })]],T.sl false [[T.v (.string { data:=#[80] }),T.v (.int .i64 1),T.v (.int .i64 4),T.v (.string { data:=#[65] }),T.v (.string { data:=#[] }),T.v (.int .i64 0),T.v (Value.slice none 0 0),T.v (Value.slice none 0 0),T.v (.string { data:=#[] }),T.v (.int .i64 0),T.v (.int .i64 7),T.v (.int .i64 0),T.v (.int .i64 0),T.v (.int .i64 0),T.v (.int .i64 0),T.v (.int .i64 0),T.v (.int .i64 0),T.v (.int .i64 0)]],T.sl false [],T.sl false [],T.sl false []],T.agg [T.v (Value.slice none 0 0),T.v (Value.slice none 0 0)],T.agg [T.v (.int .i64 6),T.v (.string { data:=#[80] }),T.v (.string { data:=#[66] }),T.v (.string { data:=#[] }),T.v (.int .i64 0),T.v (.string { data:=#[] }),T.v (.string { data:=#[] }),T.v (.int .i64 0),T.v (.int .i64 0),T.v (.string { data:=#[] }),T.v (.string { data:=#[] }),T.v (.int .i64 0),T.v (Value.slice none 0 0),T.v (Value.slice none 0 0),T.v (.string { data:=#[] }),T.v (.int .i64 0),T.v (.int .i64 0),T.v (.int .i64 0),T.v (.int .i64 0),T.v (.int .i64 0),T.v (.int .i64 0),T.v (.int .i64 0),T.v (.int .i64 0),T.v (.int .i64 0),T.v (.string { data:=#[] }),T.v (.string { data:=#[] }),T.v (.string { data:=#[] }),T.v (.int .i64 0),T.v (.int .i64 0),T.v (.int .i64 0),T.v (.string { data:=#[] }),T.v (.string { data:=#[] }),T.v (Value.slice none 0 0),T.v (.int .i64 0),T.v (Value.slice none 0 0),T.v (.int .i64 0),T.v (.string { data:=#[] }),T.v (.string { data:=#[] })]]
def A8Q:T:=Go.Pv.T.cC [Go.Pv.T.agg [Go.Pv.T.v (Go.Value.string { data:=#[72] }),Go.Pv.T.sl false [[Go.Pv.T.v (Go.Value.string { data:=#[65] }),Go.Pv.T.v (Go.Value.int Go.IntKind.i64 2),Go.Pv.T.v (Go.Value.string { data:=#[66] })],[Go.Pv.T.v (Go.Value.string { data:=#[66] }),Go.Pv.T.v (Go.Value.int Go.IntKind.i64 1),Go.Pv.T.v (Go.Value.string { data:=#[] })]],Go.Pv.T.sl false [[Go.Pv.T.v (Go.Value.string { data:=#[80] }),Go.Pv.T.v (Go.Value.int Go.IntKind.i64 1),Go.Pv.T.v (Go.Value.int Go.IntKind.i64 4),Go.Pv.T.v (Go.Value.string { data:=#[66] }),Go.Pv.T.v (Go.Value.string { data:=#[] }),Go.Pv.T.v (Go.Value.int Go.IntKind.i64 0),Go.Pv.T.sl false [],Go.Pv.T.sl false [],Go.Pv.T.v (Go.Value.string { data:=#[] }),Go.Pv.T.v (Go.Value.int Go.IntKind.i64 0),Go.Pv.T.v (Go.Value.int Go.IntKind.i64 7),Go.Pv.T.v (Go.Value.int Go.IntKind.i64 0),Go.Pv.T.v (Go.Value.int Go.IntKind.i64 0),Go.Pv.T.v (Go.Value.int Go.IntKind.i64 0),Go.Pv.T.v (Go.Value.int Go.IntKind.i64 0),Go.Pv.T.v (Go.Value.int Go.IntKind.i64 0),Go.Pv.T.v (Go.Value.int Go.IntKind.i64 0),Go.Pv.T.v (Go.Value.int Go.IntKind.i64 0)]],Go.Pv.T.sl false [],Go.Pv.T.sl false [],Go.Pv.T.sl false []],Go.Pv.T.v (Go.Value.int Go.IntKind.i64 0)]
theorem A92:gEd A8L=some A8Q:=by kernel_rfl
def ARJ:List (List T×T):=[(A8H,A8M),(A8I,A8N),(A8J,A8O),(A8K,A8P),(A8L,A8Q)]
theorem AZQ:aN Tryz.prog 13 (AKJ ARJ):=AKK A30 fun x hx=>by
 simp only[ARJ,List.mem_cons,List.not_mem_nil,or_false] at hx
 rcases hx with rfl|rfl|rfl|rfl|rfl
 ·exact A9Y
 ·exact A9Z
 ·exact A90
 ·exact A91
 ·exact A92
end Go.Pv
namespace Go.Pv
open Go Go.Proofs
def A4T:FuncId→Bool:=fun f=>[58,307,86,251,38,157,164,33,300,301,228,302,229,232,70,32,67,69,66,68,230,231,233,17,54,216,19,18].contains f
def A4K:List T→Option T:=AKJ ARJ
theorem AR1:aN Tryz.prog 13 A4K:=AZQ
noncomputable def AGB:Env:=Env.of [(306,.pure vC),(13,.pure A4K),(77,.fresh (pK 3 40)),(78,.fresh (pK 6 72)),(79,.fresh (pK 3 40)),(75,.fresh (pK 2 16)),(76,.fresh (pK 1 24)),(80,.fresh (pK 18 208)),(81,.fresh (pK 5 88)),(237,.fresh (pK 1 16)),(5000000000+54,.mark),(7000000000+102,.mark)]
theorem ADM:aR Tryz.prog AGB:=aR.cons (x:=.pure vC) A9 (aR.cons (x:=.pure A4K) AR1 (aR.cons (x:=.fresh (pK 3 40)) N4 (aR.cons (x:=.fresh (pK 6 72)) N7 (aR.cons (x:=.fresh (pK 3 40)) N3 (aR.cons (x:=.fresh (pK 2 16)) AF1 (aR.cons (x:=.fresh (pK 1 24)) VY (aR.cons (x:=.fresh (pK 18 208)) N6 (aR.cons (x:=.fresh (pK 5 88)) N5 (aR.cons (x:=.fresh (pK 1 16)) VZ (aR.cons (x:=.mark) trivial (aR.cons (x:=.mark) trivial (aR.nil _))))))))))))
def A8U:List T→Option T:=fun args=>match args with | []=>some (.v (.bool true))|_=>none
def fJ:List T→Option T:=A8U
theorem ACD:aN Tryz.prog 11 fJ :=
 AJ8 aT aW 400 A4T (B:=AGB) ADM 40 (by kernel_rfl)
end Go.Pv
namespace Go.Pv
open Go Go.Proofs
def okW (d:aC) (x:a8):Bool:=(okD d&&YN d)&&(hO (fE x)&&fX (jO x))
structure A1D (d:aC):Prop where
 n:d.2.1.length≤40
 p:d.2.2.1.length≤40
 s:d.2.2.2.1.length≤40
 k:d.2.2.2.2.1.length≤40
 r:d.2.2.2.2.2.length≤40
theorem ARS {d:aC} (h:N1 d 40=true):A1D d:=by
 simp only[N1,Bool.and_eq_true,decide_eq_true_eq] at h
 obtain ⟨⟨⟨⟨⟨a,b⟩,c⟩,e⟩,f⟩,_⟩:=h
 exact ⟨by omega,by omega,by omega,by omega,by omega⟩
theorem ART {d:aC} (h:N1 d 40=true):N1 d 1000=true:=by
 simp only[N1,Bool.and_eq_true,List.all_eq_true,decide_eq_true_eq] at h ⊢
 obtain ⟨⟨⟨⟨⟨a,b⟩,c⟩,e⟩,f⟩,g⟩:=h
 exact ⟨⟨⟨⟨⟨by omega,by omega⟩,by omega⟩,by omega⟩,by omega⟩,fun k hk=>by have:=g k hk;omega⟩
theorem pB {e:aC} (hP:∀ q∈e.2.2.1,hO q=true) (hK:∀ q∈e.2.2.2.2.1,fX q=true) (n:e.2.1.length≤1000) (p:e.2.2.1.length≤1000) (s:e.2.2.2.1.length≤1000) (k:e.2.2.2.2.1.length≤1000) (r:e.2.2.2.2.2.length≤1000):uD e=true:=by
 unfold uD okD YN
 rw[List.all_eq_true.2 hP,List.all_eq_true.2 hK,decide_eq_true n,decide_eq_true p,decide_eq_true s,decide_eq_true k,decide_eq_true r];rfl
theorem A6B {d:aC} {x:a8} (hw:okW d x=true) (hl:A1D d) (h5:¬ x.1=5) (h6:¬ x.1=6):uD d=true∧uD (p8 d x)=true:=by
 simp only[okW,Bool.and_eq_true] at hw
 obtain ⟨⟨hD,hK⟩,hp,hk⟩:=hw
 obtain ⟨ln,lp,ls,lk,lr⟩:=hl
 have a1:∀ q∈d.2.2.1,hO q=true:=fun q hq=>List.all_eq_true.1 hD q hq
 have b1:∀ q∈d.2.2.2.2.1,fX q=true:=fun q hq=>List.all_eq_true.1 hK q hq
 have i1:∀ {α:Type} {f:α→α→Bool} {l:List α} {a:α},l.length≤40→(mY f l a).length≤1000:=fun h=>by rw[ATQ];omega
 have i2:∀ {α:Type} {f:α→Bool} {l:List α},l.length≤40→(iQ f l).length≤1000:=fun h=>Nat.le_trans VR (by omega)
 have i3:∀ {α:Type} {l:List α},l.length≤40→l.length≤1000:=fun h=>by omega
 refine ⟨pB a1 b1 (i3 ln) (i3 lp) (i3 ls) (i3 lk) (i3 lr),?_⟩
 unfold p8
 split
 ·exact pB a1 b1 (i1 ln) (i3 lp) (i3 ls) (i3 lk) (i3 lr)
 split
 ·exact pB a1 b1 (i2 ln) (i3 lp) (i3 ls) (i3 lk) (i3 lr)
 split
 ·exact pB (fun q hq=>(BR.1 hq).elim (fun e=>by rw[e];exact hp) (a1 q)) b1 (i3 ln) (i1 lp) (i3 ls) (i3 lk) (i3 lr)
 split
 ·exact pB (fun q hq=>a1 q (JR hq)) b1 (i3 ln) (i2 lp) (i3 ls) (i3 lk) (i3 lr)
 split
 ·exact pB a1 b1 (i3 ln) (i3 lp) (i1 ls) (i3 lk) (i3 lr)
 split
 ·exact pB a1 b1 (i3 ln) (i3 lp) (i2 ls) (i3 lk) (i3 lr)
 split
 ·exact pB a1 (fun q hq=>(BR.1 hq).elim (fun e=>by rw[e];exact hk) (b1 q)) (i3 ln) (i3 lp) (i3 ls) (i1 lk) (i3 lr)
 split
 ·exact pB a1 (fun q hq=>b1 q (JR hq)) (i3 ln) (i3 lp) (i3 ls) (i2 lk) (i3 lr)
 split
 ·exact pB a1 b1 (i3 ln) (i3 lp) (i3 ls) (i3 lk) (i1 lr)
 ·exact pB a1 b1 (i3 ln) (i3 lp) (i3 ls) (i3 lk) (i2 lr)
theorem VB {d:aC} {m:aI} {x:a8} (h5:¬ x.1=5) (h6:¬ x.1=6) (hc:uD d=true) (hp:hO (fE x)=true) (hk:fX (jO x)=true):wV [aH true aE d,aH true aK m,aH true aU x]=some (Sh.enc [(true,aE),(false,.int .i64)] (bH d m x)):=by
 rw[AC0]
 unfold CC
 rw[if_neg (fun h=>h.elim h5 h6)]
 exact dN (by unfold okX;rw[hc,hp,hk];rfl)
theorem KM (K:Bool→Prop):aJ [(false,Sy.bool)] (fJ []) K=K true:=rK (s:=[(false,Sy.bool)]) rfl true K
def nG (x:aC×aI×a8):Option T:=match okW x.1 x.2.2 with
 | true=>some (T.v (.bool true))
 | false=>none
noncomputable def ZY:Env:=Env.of [(35,.pure WL),(5,.pure BJ),(13,.pure wV),(14,.pure vG),(11,.pure fJ)]
def ABL:FuncId→Hint:=fun _=>aX
theorem QG:aR Tryz.prog ZY:=.cons A3Z (.cons AR0 (.cons ARV (.cons AJY (.cons ACD (.nil _)))))
def BEI(R:T→Prop):Prop:=aJ BDA (fJ []) fun (y3:Bool)=>R (T.v (.bool y3))
def zA(a0:aC)(a1:aI)(a2:a8)(R:T→Prop):Prop:=aJ BDA (WL [aH true aE a0,T.v (.int .i64 40)]) fun (y0:Bool)=>aB y0 (aJ BDA (BJ [aH true aU a2]) fun (y1:Bool)=>aB (!y1) (aJ BDA (fJ []) fun (y2:Bool)=>R (T.v (.bool y2))) (aB (decide (a2.1=5)) (BEI R) (aB (decide (a2.1=6)) (BEI R) (aJ [(true,aE),(false,Sy.int IntKind.i64)] (wV [aH true aE a0,aH true aK a1,aH true aU a2]) fun (y5:aC×Int)=>aB (!decide (y5.2=0)) (BEI R) (aJ [(true,aE),(false,Sy.int IntKind.i64)] (wV [aH true aE y5.1,aH true aK a1, aH true aU a2]) fun (y7:aC×Int)=>bS true (aB (decide (Int.tmod a2.1 2=1)) (aB (decide (y7.2=7)) (BEI R) (R BDC)) (aB (decide (y7.2=8)) (BEI R) (aJ BC9 (vG [aH true aE a0,aH true aK a1]) fun (y10:Int)=>aB (!decide (y10=0)) (BEI R) (R BDC))))))))) (aJ BDA (fJ []) fun (y12:Bool)=>R (T.v (.bool y12)))
abbrev tK:Sh:=[(true,aE),(true,aK),(true,aU)]
noncomputable def KS:List T→Option T:=gS tK nG
theorem YJ:Of3 Tryz.prog 4 KS nG (cB tK) zA:=YE (a1:=(true,aE)) (a2:=(true,aK)) (a3:=(true,aU)) (sp:=nG) (F:=zA) (Hs:=ABL) (f:=4) (k:=8) QG aT aW (aL rfl) ⟨_,_,Tryz.func4,rfl⟩ rfl fun _ _ _ _=>by kernel_rfl
theorem AFJ {d:aC} {m:aI} {x:a8} (h:(bH d m x).2=0) (hk:x.1=2∨x.1=4∨x.1=8∨x.1=10∨x.1=12) (ho:eQ d=true):(bH (bH d m x).1 m x).2=8:=by
 have k:=RI h
 have ha:gP x=false:=by
  simp only[gP,Bool.or_eq_false_iff,decide_eq_false_iff_not]
  omega
 rw[k.eq]
 show (bH (p8 d x) m x).2=8
 unfold bH
 rw[if_neg (fun h=>h k.kind),if_neg (fun h=>h.elim (fun h=>by rw[mJ.2 k.plain] at h;cases h) fun h=>h.2 (k.rev h.1)),if_neg (by rw[ha];exact fun h=>Bool.noConfusion h.1),if_pos ⟨ha,AVG ho hk⟩]
theorem V4:aN Tryz.prog 4 KS:=YJ fun d m x r h hb=>by
 clear hb
 obtain ⟨hw,rfl⟩:=lO h
 clear h
 replace hw:okW d x=true:=hw
 have aw:∀ {K:Bool→Prop},K true→aJ [(false,Sy.bool)] (fJ []) K:=fun h=>by rw[KM];exact h
 unfold zA BEI BDC BDA BC9
 refine aF (s:=mD) (y:=N1 d 40) (AS0 ..) ?_
 refine sZ (fun hf=>?_) fun _=>aw rfl
 refine aF (s:=mD) (y:=rP x) (AC3 ..) ?_
 refine fB (fun _=>aw rfl) fun _=>?_
 refine b6 (fun _=>aw rfl) fun h5=>?_
 refine b6 (fun _=>aw rfl) fun h6=>?_
 obtain ⟨hc,hc2⟩:=A6B hw (ARS hf) h5 h6
 have hw2:=hw
 simp only[okW,Bool.and_eq_true] at hw2
 obtain ⟨⟨hD,hK⟩,hp,hk⟩:=hw2
 refine aF (s:=[(true,aE),(false,.int .i64)]) (y:=bH d m x) (VB h5 h6 hc hp hk) ?_
 refine jB (fun _=>aw rfl) fun he=>?_
 have dn:=RI he
 have e1:(bH d m x).1=p8 d x:=by rw[dn.eq]
 refine aF (s:=[(true,aE),(false,.int .i64)]) (y:=bH (bH d m x).1 m x) (VB h5 h6 (by rw[e1];exact hc2) hp hk) ?_
 refine ⟨rfl,?_⟩
 obtain ⟨k1,k2⟩:=dn.kind
 rw[Int.tmod_eq_emod_of_nonneg (by omega)]
 refine b6 (fun ho=>?_) fun ho=>?_
 ·have ha:gP x=true:=by
   have:x.1=1∨x.1=3∨x.1=7∨x.1=9∨x.1=11:=by omega
   unfold gP
   rcases this with h|h|h|h|h<;>rw[h]<;>rfl
  exact b6 (fun _=>aw rfl) fun h7=>absurd (AMR he ha) h7
 ·have hk:x.1=2∨x.1=4∨x.1=8∨x.1=10∨x.1=12:=by omega
  refine b6 (fun _=>aw rfl) fun h8=>?_
  have hi:eQ d=false:=by
   cases hi:eQ d with
   | false=>rfl
   | true=>exact absurd (AFJ he hk hi) h8
  have hu:YO d=true:=by unfold YO;rw[ART hf,hD,hK];rfl
  refine aF (s:=[(false,.int .i64)]) (y:=RA d m) ((WH ..).trans ?_) ?_
  ·unfold oL
   dsimp only
   rw[hi]
   exact EH _ hu
  ·exact jB (fun _=>aw rfl) fun h=>absurd h (AY1 hi)
theorem AMC {p:aY} (h4:InS aO p):hO p=true:=by
 obtain ⟨_,_,_,_,_,_,⟨⟨h5,h6,_⟩,h7,h8,h9⟩,_⟩:=h4
 unfold hO B1 j3
 simp only[Bool.and_eq_true,decide_eq_true_eq,List.all_eq_true]
 refine ⟨⟨⟨?_,?_⟩,?_,?_⟩,fun q hq=>?_⟩
 ·exact h5
 ·exact h6
 ·exact h7
 ·exact h8
 ·obtain ⟨g1,g2,_⟩:=h9 q hq
  exact ⟨g1,g2⟩
theorem AMB {k:aM} (h:InS aG k):fX k=true:=by
 obtain ⟨_,_,⟨h5,h6,_⟩,_,⟨h7,h8,_⟩⟩:=h
 unfold fX j3
 simp only[Bool.and_eq_true,decide_eq_true_eq]
 exact ⟨⟨h5,h6⟩,h7,h8⟩
theorem YV:∀ x:aC×aI×a8,A28 tK x→nG x=some (.v (.bool true)):=fun ⟨d,m,x⟩ h=>by
 have h3:InS aU x:=h.2.2
 refine dN (c:=okW d x) (a:=T.v (.bool true)) ?_
 unfold okW
 rw[A6C h.1,A6D h.1,AMC h3.2.2.2.2.1,AMB h3.2.2.2.2.2.2.1];rfl
end Go.Pv
