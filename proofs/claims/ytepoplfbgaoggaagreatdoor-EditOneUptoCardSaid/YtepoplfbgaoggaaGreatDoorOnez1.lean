/-
  Facts on the program that every function's file asks for.
  The seam, the part, the section with an identifier.
  The part with an identifier, as the program finds it; how thick a seam is.
  Words that several files share.
  The way from the block down to a part.
  Chapter 17: the indices of a design, walked.
  Chapter 17: rising, walked.
  strings.Split on typed data.
  Names and identifiers.
  Chapter 17: the tree's form, walked.
  Chapter 17: the tree's other methods where a design's elements are empty, and Check there.
  Packages; equality of lists, shapes, parts and packages.
  Chapter 17: the tree's seams and requirements.
  dag.Order, walked.
  Chapter 17: the tree's parts and packages, walked; Check, walked.
  Plane geometry, plain.
  poly: crosses and edges.
  poly: simple contours and their areas.
-/
import Derived.Test.YtepoplfbgaoggaaGreatDoorOneki
import Derived.Test.YtepoplfbgaoggaaGreatDoorOnety
import Derived.Test.YtepoplfbgaoggaaGreatDoorProg
import Derived.KernelRfl
import Derived.Test.YtepoplfbgaoggaaGreatDoorOnekn
import Derived.Test.YtepoplfbgaoggaaGreatDoorOnegs
import Derived.Test.YtepoplfbgaoggaaGreatDoorOnesl
import Derived.Laws.RangeAny
import Derived.Test.YtepoplfbgaoggaaGreatDoorOnekm
set_option linter.defProp false
set_option linter.unusedSimpArgs false
set_option linter.unusedVariables false
noncomputable section
namespace Go.Pv
open Go Go.Proofs IntKind
theorem lEE {α:Type}{l:List α}{p:α->Bool} {k:Nat} (h:k<l.length):(l.drop k).find? p=if p l[k]=true then some l[k] else (l.drop (k+1)).find? p:=lE (a1:=(true,.bool)) (a2:=(true,.bool)) (a3:=(true,.bool)) h
def aV:Tryz.prog.follows .mixedOrders=true:=by kernel_rfl
def aY:cU Tryz.prog=true:=by kernel_rfl
end Go.Pv
set_option maxRecDepth 100000
namespace Go.Pv
open Go Go.Proofs IntKind
def F5 (d:aG) (id:iII):Option gE:=d.2.2.2.1.find? λs=>decide (s.1=id)
def partOf (d:aG) (id:iII):Option bG:=d.2.2.1.find? λs=>decide (s.1=id)
def cG (d:aG) (id:iII):Option eH:=d.2.1.find? λs=>decide (s.1=id)
def PF (m:aL) (n:iII):Option cH:=m.2.find? λs=>decide (s.1=n)
def dS:gE:=(⟨#[]⟩,⟨#[]⟩,⟨#[]⟩,0,0,0)
def dI:eH:=(⟨#[]⟩,0,⟨#[]⟩)
def cO:bG:=(⟨#[]⟩,0,0,⟨#[]⟩,⟨#[]⟩,0,([],[]),⟨#[]⟩,0,0,(0,0,0),(0,0,0),0)
def EJ:cH:=(⟨#[]⟩,0,0,0)
variable {α:Type}
def found (no:α) (o:Option α):α×Bool:=match o with
 | some s=>(s,true)
 | none=>(no,false)
def uJ (x:aG×iII):Option T:=some (Sh.enc [(true,bI),(false,.bool)] (found dS (F5 x.1 x.2)))
def uH (x:aG×iII):Option T:=some (Sh.enc [(true,aS),(false,.bool)] (found cO (partOf x.1 x.2)))
def kE (x:aG×iII):Option T:=some (Sh.enc [(true,bC),(false,.bool)] (found dI (cG x.1 x.2)))
def o0 (x:aL×iII):Option T:=some (Sh.enc [(true,bN),(false,.bool)] (found EJ (PF x.1 x.2)))
abbrev nG:=uH
abbrev lM:=kE
def BMC:FuncId->Hint:=bP 205 [(2,.inv [.val 11 false (.int .i64),.fix 1])] (λ_=>bH)
def bF:T:=pPQ ({data:=#[]})
def LE(a0:aG):List (List T):=List.map bI.enc a0.2.2.2.1
def AO6(a0:aG)(a1:iII)(R:T->Prop):Prop:=eZ (bL.rows false [[D.p bF,D.p bF, D.p bF,D.p (pPP 0), D.p (pPP 0),D.p (pPP 0)]]) (bL.rows false [[D.p bF,D.p bF, D.p bF,D.p (pPP 0), D.p (pPP 0),D.p (pPP 0)]]) (a7 (Int×PUnit×PUnit) (λX0 s1=>aE (decide (s1.1<(↑(LE a0).length:Int))) (aU bI (LE a0) s1.1 λ(y2:gE)=>aE (decide (y2.1=a1)) (R (T.cB [aH true bI y2,pPR true])) (eZ (bL.rows false [[D.p bF, D.p bF, D.p bF, D.p (pPP 0), D.p (pPP 0), D.p (pPP 0)]]) (bL.rows false [[D.p bF, D.p bF, D.p bF, D.p (pPP 0), D.p (pPP 0), D.p (pPP 0)]]) (X0 (i64.wrap (s1.1+1),(),())))) (R (T.cB [T.agg [pPQ ({data:=#[]}),pPQ ({data:=#[]}), pPQ ({data:=#[]}),pPP 0, pPP 0,pPP 0], pPR false]))) (0,(),()))
abbrev ATF:Sh:=[(true,aF),(false,Sy.str)]
def FO:List T->Option T:=gS ATF uJ
def ZT {a0 a1}:FO [aH true aF a0,pPQ a1]=uJ (a0,a1):=a8 (s:=ATF) rfl (a0,a1) rfl
def BJO:nJ Tryz.prog 205 FO uJ (bR ATF) AO6:=eV (a1:=(true,aF)) (a2:=(false,Sy.str)) (Hs:=BMC) (k:=8) (bM _) aV aY (aQ rfl) ⟨_,_,Tryz.func205,rfl⟩ rfl λ_ _ _=>by kernel_rfl
def AU4:aT Tryz.prog 205 FO:=BJO λd id r h hb=>by
 have hl:d.2.2.2.1.length<=2 ^ 47:=hb.1.2.2.2.1.1;unfold AO6 LE bF;rw[cI];refine bJ d.2.2.2.1.length (λk s=>s=((k:Int),(),())/\(d.2.2.2.1.drop k).find? (λs=>decide (s.1=id))=F5 d id) ⟨rfl,rfl⟩ ?_;rintro X k s hk ⟨rfl,hf⟩ hX;simp only[ae,yG,cI];by_cases hlt:k<d.2.2.2.1.length
 ·rw[lEE hlt] at hf;simp only[hlt,decide_true,aE,bA (r:=bI) hlt];cases hc:decide (d.2.2.2.1[k].1=id) with
  | true =>
   simp only[hc,if_true] at hf;simp only[uJ,uJ,<-hf] at h;cases h;rfl
  | false =>
   simp only[hc] at hf;refine hX _ hlt ⟨?_,hf⟩;simp only[Prod.mk.injEq,and_true];exact aZ _ (by omega) (by omega)
 ·have:k=d.2.2.2.1.length:=by omega
  subst this;simp only[List.drop_length,List.find?_nil] at hf;simp only[uJ,uJ,<-hf] at h;simp only[hlt,decide_false,aE];cases h;rfl
def A67:FuncId->Hint:=bP 11 [(2,.inv [.val 6 false (.int .i64),.fix 1])] (λ_=>bH)
def d6:T:=T.v (Value.slice none 0 0)
def LT(a0:aG):List (List T):=List.map aS.enc a0.2.2.1
def i6(X0:Int×PUnit×PUnit->Prop)(s1:Int×PUnit×PUnit):Prop:=eZ (bL.rows false [[D.p bF, D.p (pPP 0), D.p (pPP 0), D.p bF, D.p bF, D.p (pPP 0), D.p d6,D.p d6, D.p bF, D.p (pPP 0), D.p (pPP 0), D.p (pPP 0), D.p (pPP 0), D.p (pPP 0), D.p (pPP 0), D.p (pPP 0), D.p (pPP 0), D.p (pPP 0)]]) (bL.rows false [[D.p bF, D.p (pPP 0), D.p (pPP 0), D.p bF, D.p bF, D.p (pPP 0), D.p d6,D.p d6, D.p bF, D.p (pPP 0), D.p (pPP 0), D.p (pPP 0), D.p (pPP 0), D.p (pPP 0), D.p (pPP 0), D.p (pPP 0), D.p (pPP 0), D.p (pPP 0)]]) (X0 (i64.wrap (s1.1+1),(),()))
def t6:List T:=[T.agg [pPQ ({data:=#[]}),pPP 0, pPP 0,pPQ ({data:=#[]}), pPQ ({data:=#[]}),pPP 0, T.sl false [],T.sl false [],pPQ ({data:=#[]}), pPP 0,pPP 0, pPP 0,pPP 0, pPP 0,pPP 0, pPP 0,pPP 0, pPP 0], pPR false]
def SA(a0:aG)(a1:iII)(R:T->Prop):Prop:=eZ (bL.rows false [[D.p bF,D.p (pPP 0), D.p (pPP 0),D.p bF, D.p bF,D.p (pPP 0), D.p d6,D.p d6, D.p bF,D.p (pPP 0), D.p (pPP 0),D.p (pPP 0), D.p (pPP 0),D.p (pPP 0), D.p (pPP 0),D.p (pPP 0), D.p (pPP 0),D.p (pPP 0)]]) (bL.rows false [[D.p bF,D.p (pPP 0), D.p (pPP 0),D.p bF, D.p bF,D.p (pPP 0), D.p d6,D.p d6, D.p bF,D.p (pPP 0), D.p (pPP 0),D.p (pPP 0), D.p (pPP 0),D.p (pPP 0), D.p (pPP 0),D.p (pPP 0), D.p (pPP 0),D.p (pPP 0)]]) (a7 (Int×PUnit×PUnit) (λX0 s1=>aE (decide (s1.1<(↑(LT a0).length:Int))) (aU aS (LT a0) s1.1 λ(y2:bG)=>aE (decide (y2.1=a1)) (aU aS (LT a0) s1.1 λ(y3:bG)=>R (T.cB [aH true aS y3,pPR true])) (i6 X0 s1)) (R (T.cB t6))) (0,(),()))
abbrev WM:Sh:=[(true,aF),(false,Sy.str)]
abbrev JN:Sh:=[(true,aS),(false,Sy.bool)]
def EL (y:Sh.den JN) (K:Sh.den JN->Prop):aJ JN (some (Sh.enc JN y)) K=K y:=oL rfl y K
def jL:List T->Option T:=gS WM nG
def A7 {a0 a1}:jL [aH true aF a0,pPQ a1]=nG (a0,a1):=a8 (s:=WM) rfl (a0,a1) rfl
def A2R:nJ Tryz.prog 11 jL nG (bR WM) SA:=eV (a1:=(true,aF)) (a2:=(false,Sy.str)) (Hs:=A67) (k:=8) (bM _) aV aY (aQ rfl) ⟨_,_,Tryz.func11,rfl⟩ rfl λ_ _ _=>by kernel_rfl
def CV:aT Tryz.prog 11 jL:=A2R λd id r h hb=>by
 have hl:d.2.2.1.length<=2 ^ 47:=hb.1.2.2.1.1;unfold SA t6 i6 LT d6 bF;rw[cI];refine bJ d.2.2.1.length (λk s=>s=((k:Int),(),())/\(d.2.2.1.drop k).find? (λs=>decide (s.1=id))=partOf d id) ⟨rfl,rfl⟩ ?_;rintro X k s hk ⟨rfl,hf⟩ hX;simp only[ae,yG,cI];by_cases hlt:k<d.2.2.1.length
 ·rw[lEE hlt] at hf;simp only[hlt,decide_true,aE,bA (r:=aS) hlt];cases hc:decide (d.2.2.1[k].1=id) with
  | true =>
   simp only[hc,if_true] at hf;simp only[nG,uH,<-hf] at h;cases h;rfl
  | false =>
   simp only[hc] at hf;refine hX _ hlt ⟨?_,hf⟩;simp only[Prod.mk.injEq,and_true];exact aZ _ (by omega) (by omega)
 ·have:k=d.2.2.1.length:=by omega
  subst this;simp only[List.drop_length,List.find?_nil] at hf;simp only[nG,uH,<-hf] at h;simp only[hlt,decide_false,aE];cases h;rfl
def A65:FuncId->Hint:=bP 57 [(2,.inv [.val 6 false (.int .i64),.fix 1])] (λ_=>bH)
def GE(a0:aG):List (List T):=List.map bC.enc a0.2.1
def BTT(X0:Int×PUnit×PUnit->Prop)(s1:Int×PUnit×PUnit):Prop:=eZ (bL.rows false [[D.p bF, D.p (pPP 0), D.p bF]]) (bL.rows false [[D.p bF, D.p (pPP 0), D.p bF]]) (X0 (i64.wrap (s1.1+1),(),()))
def BTU:List T:=[T.agg [pPQ ({data:=#[]}),pPP 0, pPQ ({data:=#[]})], pPR false]
def R6(a0:aG)(a1:iII)(R:T->Prop):Prop:=eZ (bL.rows false [[D.p bF,D.p (pPP 0), D.p bF]]) (bL.rows false [[D.p bF,D.p (pPP 0), D.p bF]]) (a7 (Int×PUnit×PUnit) (λX0 s1=>aE (decide (s1.1<(↑(GE a0).length:Int))) (aU bC (GE a0) s1.1 λ(y2:eH)=>aE (decide (y2.1=a1)) (aU bC (GE a0) s1.1 λ(y3:eH)=>R (T.cB [aH true bC y3,pPR true])) (BTT X0 s1)) (R (T.cB BTU))) (0,(),()))
abbrev WJ:Sh:=[(true,aF),(false,Sy.str)]
abbrev JM:Sh:=[(true,bC),(false,Sy.bool)]
def uT (y:Sh.den JM) (K:Sh.den JM->Prop):aJ JM (some (Sh.enc JM y)) K=K y:=oL rfl y K
def fQ:List T->Option T:=gS WJ lM
def pO {a0 a1}:fQ [aH true aF a0,pPQ a1]=lM (a0,a1):=a8 (s:=WJ) rfl (a0,a1) rfl
def A2O:nJ Tryz.prog 57 fQ lM (bR WJ) R6:=eV (a1:=(true,aF)) (a2:=(false,Sy.str)) (Hs:=A65) (k:=8) (bM _) aV aY (aQ rfl) ⟨_,_,Tryz.func57,rfl⟩ rfl λ_ _ _=>by kernel_rfl
def rI:aT Tryz.prog 57 fQ:=A2O λd id r h hb=>by
 have hl:d.2.1.length<=2 ^ 47:=hb.1.2.1.1;unfold R6 BTU BTT GE bF;rw[cI];refine bJ d.2.1.length (λk s=>s=((k:Int),(),())/\(d.2.1.drop k).find? (λs=>decide (s.1=id))=cG d id) ⟨rfl,rfl⟩ ?_;rintro X k s hk ⟨rfl,hf⟩ hX;simp only[ae,yG,cI];by_cases hlt:k<d.2.1.length
 ·rw[lEE hlt] at hf;simp only[hlt,decide_true,aE,bA (r:=bC) hlt];cases hc:decide (d.2.1[k].1=id) with
  | true =>
   simp only[hc,if_true] at hf;simp only[lM,kE,<-hf] at h;cases h;rfl
  | false =>
   simp only[hc] at hf;refine hX _ hlt ⟨?_,hf⟩;simp only[Prod.mk.injEq,and_true];exact aZ _ (by omega) (by omega)
 ·have:k=d.2.1.length:=by omega
  subst this;simp only[List.drop_length,List.find?_nil] at hf;simp only[lM,kE,<-hf] at h;simp only[hlt,decide_false,aE];cases h;rfl
def BL9:FuncId->Hint:=bP 157 [(2,.inv [.val 11 false (.int .i64),.fix 1])] (λ_=>bH)
def AO0(a0:aG)(a1:iII)(R:T->Prop):Prop:=eZ (bL.rows false [[D.p bF,D.p (pPP 0), D.p bF]]) (bL.rows false [[D.p bF,D.p (pPP 0), D.p bF]]) (a7 (Int×PUnit×PUnit) (λX0 s1=>aE (decide (s1.1<(↑(GE a0).length:Int))) (aU bC (GE a0) s1.1 λ(y2:eH)=>aE (decide (y2.1=a1)) (R (T.cB [aH true bC y2,pPR true])) (BTT X0 s1)) (R (T.cB BTU))) (0,(),()))
abbrev ATA:Sh:=[(true,aF),(false,Sy.str)]
def FL:List T->Option T:=gS ATA kE
def ZN {a0 a1}:FL [aH true aF a0,pPQ a1]=kE (a0,a1):=a8 (s:=ATA) rfl (a0,a1) rfl
def BJJ:nJ Tryz.prog 157 FL kE (bR ATA) AO0:=eV (a1:=(true,aF)) (a2:=(false,Sy.str)) (Hs:=BL9) (k:=8) (bM _) aV aY (aQ rfl) ⟨_,_,Tryz.func157,rfl⟩ rfl λ_ _ _=>by kernel_rfl
def AU0:aT Tryz.prog 157 FL:=BJJ λd id r h hb=>by
 have hl:d.2.1.length<=2 ^ 47:=hb.1.2.1.1;unfold AO0 BTU BTT GE bF;rw[cI];refine bJ d.2.1.length (λk s=>s=((k:Int),(),())/\(d.2.1.drop k).find? (λs=>decide (s.1=id))=cG d id) ⟨rfl,rfl⟩ ?_;rintro X k s hk ⟨rfl,hf⟩ hX;simp only[ae,yG,cI];by_cases hlt:k<d.2.1.length
 ·rw[lEE hlt] at hf;simp only[hlt,decide_true,aE,bA (r:=bC) hlt];cases hc:decide (d.2.1[k].1=id) with
  | true =>
   simp only[hc,if_true] at hf;simp only[kE,kE,<-hf] at h;cases h;rfl
  | false =>
   simp only[hc] at hf;refine hX _ hlt ⟨?_,hf⟩;simp only[Prod.mk.injEq,and_true];exact aZ _ (by omega) (by omega)
 ·have:k=d.2.1.length:=by omega
  subst this;simp only[List.drop_length,List.find?_nil] at hf;simp only[kE,kE,<-hf] at h;simp only[hlt,decide_false,aE];cases h;rfl
def AY7:FuncId->Hint:=bP 328 [(2,.inv [.val 8 false (.int .i64)])] (λ_=>bH)
def g9(X0:Int×PUnit->Prop)(s1:Int×PUnit):Prop:=X0 (i64.wrap (s1.1+1),())
def BTR:List T:=[T.agg [pPQ ({data:=#[]}),pPP 0, pPP 0,pPP 0], pPR false]
def K6(a0:aL)(a1:iII)(R:T->Prop):Prop:=a7 (Int×PUnit) (λX0 s1=>aE (decide (s1.1<(↑(List.map bN.enc a0.2).length:Int))) (aU bN (List.map bN.enc a0.2) s1.1 λ(y2:cH)=>aE (decide (y2.1=a1)) (aE (decide (s1.1<0)) (R (T.cB BTR)) (aU bN (List.map bN.enc a0.2) s1.1 λ(y3:cH)=>R (T.cB [aH true bN y3,pPR true]))) (g9 X0 s1)) (R (T.cB BTR))) (0,())
abbrev NQ:Sh:=[(true,aO),(false,Sy.str)]
def cX:List T->Option T:=gS NQ o0
def ADZ {a0 a1}:cX [aH true aO a0,pPQ a1]=o0 (a0,a1):=a8 (s:=NQ) rfl (a0,a1) rfl
def ASQ:nJ Tryz.prog 268 cX o0 (bR NQ) K6:=eV (a1:=(true,aO)) (a2:=(false,Sy.str)) (Hs:=AY7) (k:=8) (bM _) aV aY (aQ rfl) ⟨_,_,Tryz.func268,rfl⟩ rfl λ_ _ _=>by kernel_rfl
def T7:aT Tryz.prog 268 cX:=ASQ λm n r h hb=>by
 have hl:m.2.length<=2 ^ 47:=hb.1.2.1;unfold K6 BTR g9;refine bJ m.2.length (λk s=>s=((k:Int),())/\(m.2.drop k).find? (λs=>decide (s.1=n))=PF m n) ⟨rfl,rfl⟩ ?_;rintro X k s hk ⟨rfl,hf⟩ hX;simp only[ae,yG];by_cases hlt:k<m.2.length
 ·rw[lEE hlt] at hf;have h0:¬ ((k:Int)<0):=by omega
  simp only[hlt,decide_true,aE,bA (r:=bN) hlt,h0,decide_false];cases hc:decide (m.2[k].1=n) with
  | true =>
   simp only[hc,if_true] at hf;simp only[o0,<-hf] at h;cases h;rfl
  | false =>
   simp only[hc] at hf;refine hX _ hlt ⟨?_,hf⟩;simp only[Prod.mk.injEq,and_true];exact aZ _ (by omega) (by omega)
 ·have:k=m.2.length:=by omega
  subst this;simp only[List.drop_length,List.find?_nil] at hf;simp only[o0,<-hf] at h;simp only[hlt,decide_false,aE];cases h;rfl
end Go.Pv
namespace Go.Pv
open Go Go.Proofs IntKind
def APT:ABH Tryz.prog 90 2 16:=⟨λR=>by kernel_rfl,λfl R=>by kernel_rfl,λfl a rows R=>by kernel_rfl⟩
def lG:List T->Option T:=gS [(false,.li aC)] (fU aC 16)
def qY {u0}:lG [T.sl false (List.map (Sy.enc aC) u0)]=fU aC 16 u0:=a8 (s:=[(false,.li aC)]) rfl u0 rfl
def TY:aT Tryz.prog 90 lG:=LI aV aY ⟨_,_,Tryz.func90,rfl⟩ APT
def AII:ANL Tryz.prog 91 1 24:=⟨λR=>by kernel_rfl,λfl R=>by kernel_rfl,λfl a rows R=>by kernel_rfl⟩
def xU:List T->Option (List (List T)):=gS [(false,.li (.li aC))] (rC (.li aC) 24)
def YJ {u0}:xU [T.sl false (List.map (Sy.enc (.li aC)) u0)]=rC (.li aC) 24 u0:=a8 (s:=[(false,.li (.li aC))]) rfl u0 rfl
def AI0:gL Tryz.prog 91 xU:=AZM aV aY ⟨_,_,Tryz.func91,rfl⟩ AII
def mB (b:Nat) (n:Nat):Bool:=decide (n*b<=140737488355328)&&decide (n<=140737488355328)
def JC (s:eM):Bool:=mB 16 s.1.length&&mB 24 s.2.length&&s.2.all λh=>mB 16 h.length
def iA (p:bG):Bool:=JC p.2.2.2.2.2.2.1
def KK (d:aG):Bool:=d.2.2.1.all iA
def jY {r:Sy} {b:Nat} {l:List r.den} (h:mB b l.length=true):rC r b l=some (List.map r.enc l):=by
 unfold rC;unfold mB at h;rw[h]
def mD (x:aG×iII):Option T:=match KK x.1 with
 | true=>uH x
 | false=>none
def BF3:Env:=Env.of [(90,.pure lG),(91,.fresh xU)]
def BG5:FuncId->Hint:=bP 35 [(2,.inv [.val 13 false (.int .i64),.fix 1]),(7,.alt [.val 37 false (.int .i64),.arr 4 1 (.li aC)] [.val 37 false (.int .i64)])] (λ_=>bH)
def AYD:bB Tryz.prog BF3:=.cons TY (.cons AI0 (.nil _))
def i7(y7:List aN):List (List T):=List.map aC.enc y7
def BT2(y7:List aN):List T:=[T.sl false (i7 y7)]
def BT4(s12:Int×List (List aN)×PUnit):List (List T):=List.map aC.li.enc s12.2.1
def AB2(a0:aG)(a1:iII)(R:T->Prop):Prop:=eZ (bL.rows false [[D.p bF,D.p (pPP 0), D.p (pPP 0),D.p bF, D.p bF,D.p (pPP 0), D.p d6,D.p d6, D.p bF,D.p (pPP 0), D.p (pPP 0),D.p (pPP 0), D.p (pPP 0),D.p (pPP 0), D.p (pPP 0),D.p (pPP 0), D.p (pPP 0),D.p (pPP 0)]]) (bL.rows false [[D.p bF,D.p (pPP 0), D.p (pPP 0),D.p bF, D.p bF,D.p (pPP 0), D.p d6,D.p d6, D.p bF,D.p (pPP 0), D.p (pPP 0),D.p (pPP 0), D.p (pPP 0),D.p (pPP 0), D.p (pPP 0),D.p (pPP 0), D.p (pPP 0),D.p (pPP 0)]]) (a7 (Int×PUnit×PUnit) (λX0 s1=>aE (decide (s1.1<(↑(LT a0).length:Int))) (aU aS (LT a0) s1.1 λ(y2:bG)=>aE (decide (y2.1=a1)) (aJ [(false,aC.li)] (lG [T.sl false (List.map aC.enc y2.2.2.2.2.2.2.1.1)]) λ(y3:List aN)=>fK aC.li (xU [T.sl false (List.map aC.li.enc y2.2.2.2.2.2.2.1.2)]) λ(y4:List (List aN))=>aE y4.isEmpty (a7 (Int×PUnit) (λX5 s6=>aE (decide (s6.1<(↑0:Int))) (aU aC.li [] s6.1 λ(y7:List aN)=>aJ [(false,aC.li)] (lG (BT2 y7)) λ(y8:List aN)=>aU aC.li [] s6.1 λ(y9:List aN)=>tD 104) (R (T.cB [T.agg [pPQ y2.1,pPP y2.2.1, pPP y2.2.2.1, pPQ y2.2.2.2.1, pPQ y2.2.2.2.2.1, pPP y2.2.2.2.2.2.1, T.sl false (i7 y3),T.sl false [], pPQ y2.2.2.2.2.2.2.2.1, pPP y2.2.2.2.2.2.2.2.2.1, pPP y2.2.2.2.2.2.2.2.2.2.1, pPP y2.2.2.2.2.2.2.2.2.2.2.1.1, pPP y2.2.2.2.2.2.2.2.2.2.2.1.2.1, pPP y2.2.2.2.2.2.2.2.2.2.2.1.2.2, pPP y2.2.2.2.2.2.2.2.2.2.2.2.1.1, pPP y2.2.2.2.2.2.2.2.2.2.2.2.1.2.1, pPP y2.2.2.2.2.2.2.2.2.2.2.2.1.2.2, pPP y2.2.2.2.2.2.2.2.2.2.2.2.2], pPR true]))) (0,())) (cD aC.li (List.map aC.li.enc y4) λ(y10:List (List aN))=>a7 (Int×List (List aN)×PUnit) (λX11 s12=>aE (decide (s12.1<(↑(List.map aC.li.enc y4).length:Int))) (aU aC.li (BT4 s12) s12.1 λ(y13:List aN)=>kU aC.li (BT4 s12) (Int.toNat s12.1) 0 λ(y14:List aN)=>aJ [(false,aC.li)] (lG (BT2 y14)) λ(y15:List aN)=>aU aC.li (BT4 s12) s12.1 λ(y16:List aN)=>D6 (BT4 s12) (Int.toNat s12.1) λ(y17:List T)=>bO (decide (1<=y17.length)) (cD aC.li ((BT4 s12).set (Int.toNat s12.1) (b6 y17 0 (BT2 y15))) λ(y18:List (List aN))=>X11 (i64.wrap (s12.1+1),y18,()))) (R (T.cB [T.agg [pPQ y2.1, pPP y2.2.1, pPP y2.2.2.1, pPQ y2.2.2.2.1, pPQ y2.2.2.2.2.1, pPP y2.2.2.2.2.2.1, T.sl false (i7 y3), T.sl false (BT4 s12), pPQ y2.2.2.2.2.2.2.2.1, pPP y2.2.2.2.2.2.2.2.2.1, pPP y2.2.2.2.2.2.2.2.2.2.1, pPP y2.2.2.2.2.2.2.2.2.2.2.1.1, pPP y2.2.2.2.2.2.2.2.2.2.2.1.2.1, pPP y2.2.2.2.2.2.2.2.2.2.2.1.2.2, pPP y2.2.2.2.2.2.2.2.2.2.2.2.1.1, pPP y2.2.2.2.2.2.2.2.2.2.2.2.1.2.1, pPP y2.2.2.2.2.2.2.2.2.2.2.2.1.2.2, pPP y2.2.2.2.2.2.2.2.2.2.2.2.2], pPR true]))) (0,y10,()))) (i6 X0 s1)) (R (T.cB t6))) (0,(),()))
abbrev AFG:Sh:=[(true,aF),(false,Sy.str)]
def mI:List T->Option T:=gS AFG mD
def sC {a0 a1}:mI [aH true aF a0,pPQ a1]=mD (a0,a1):=a8 (s:=AFG) rfl (a0,a1) rfl
def BCR:nJ Tryz.prog 35 mI mD (bR AFG) AB2:=eV (a1:=(true,aF)) (a2:=(false,Sy.str)) (Hs:=BG5) (k:=8) AYD aV aY (aQ rfl) ⟨_,_,Tryz.func35,rfl⟩ rfl λ_ _ _=>by kernel_rfl
def HG:aT Tryz.prog 35 mI:=BCR λd id r h hb=>by
 have hl:d.2.2.1.length<=2 ^ 47:=hb.1.2.2.1.1;unfold mD at h;split at h
 ·rename_i hok;unfold AB2 BT4 BT2 t6 i7 i6 LT d6 bF;rw[cI];refine bJ d.2.2.1.length (λk s=>s=((k:Int),(),())/\(d.2.2.1.drop k).find? (λs=>decide (s.1=id))=partOf d id) ⟨rfl,rfl⟩ ?_;rintro X k s hk ⟨rfl,hf⟩ hX;simp only[ae,yG,cI];by_cases hlt:k<d.2.2.1.length
  ·rw[lEE hlt] at hf;have hp:iA d.2.2.1[k]=true:=List.all_eq_true.1 hok _ (ak hlt);simp only[hlt,decide_true,aE,bA (r:=aS) hlt];generalize d.2.2.1[k]=p at *;unfold iA JC at hp;simp only[ac] at hp;obtain ⟨⟨hp1,hp2⟩,hp3⟩:=hp;cases hc:decide (p.1=id) with
   | true =>
    simp only[hc,if_true] at hf;simp only[uH,<-hf] at h;cases h;simp only[];refine aM (s:=[(false,aC.li)]) (y:=p.2.2.2.2.2.2.1.1) (by rw[qY,fU,jY hp1];rfl) ?_;refine eT (r:=.li aC) (l:=p.2.2.2.2.2.2.1.2) (by rw[YJ,jY hp2]) _ ?_;obtain ⟨p1,p2,p3,p4,p5,p6,⟨o,hs⟩,p7⟩:=p;have hb47:hs.length<=140737488355328:=by
     simp only[mB,ac,ah] at hp2;exact hp2.2
    cases hs with
    | nil =>
     simp only[List.isEmpty_nil];refine bJ 0 (λk s=>s=((k:Int),())) rfl ?_;rintro X k s hk rfl hX;have:k=0:=by omega
     subst this;rfl
    | cons h0 hs =>
     generalize hhs:h0::hs=hh at *;have he:hh.isEmpty=false:=by rw[<-hhs];rfl
     simp only[he];rw[dJ (r:=.li aC) rfl];refine bJ hh.length (λk s=>s=((k:Int),hh,())) rfl ?_;rintro X k s hk rfl hX;simp only[ae,yG];by_cases hlt:k<hh.length
     ·have hok:mB 16 hh[k].length=true:=List.all_eq_true.1 hp3 _ (ak hlt);simp only[hlt,decide_true,Int.toNat_natCast,bA (r:=.li aC) hlt,gI (r:=.li aC) hlt,n9 (r:=.li aC) hlt];refine aM (s:=[(false,aC.li)]) (y:=hh[k]) (by rw[qY,fU,jY hok];rfl) ?_;refine ⟨rfl,?_⟩;have e:b6 (Sy.enc (.li aC) hh[k]) 0 [T.sl false (List.map aC.enc hh[k])]=Sy.enc (.li aC) hh[k]:=rfl;rw[e,JR (r:=.li aC) hlt,dJ (r:=.li aC) rfl];refine hX _ hlt ?_;simp only[Prod.mk.injEq,and_true];exact aZ _ (by omega) (by omega)
     ·simp only[hlt,decide_false];rfl
   | false =>
    simp only[hc] at hf;refine hX _ hlt ⟨?_,hf⟩;simp only[Prod.mk.injEq,and_true];exact aZ _ (by omega) (by omega)
  ·have:k=d.2.2.1.length:=by omega
   subst this;simp only[List.drop_length,List.find?_nil] at hf;simp only[uH,<-hf] at h;simp only[hlt,decide_false,aE];cases h;rfl
 ·cases h
end Go.Pv
namespace Go.Pv
open Go Go.Proofs IntKind
abbrev AVQ (p:bG):iII:=p.2.2.2.1
def AAC (d:aG) (t:T):Option T:=match KK d with
 | true=>some t
 | false=>none
abbrev p0:Sh:=[(false,.bool)]
def BDC {d:aG} {t r:T} (h:AAC d t=some r):KK d=true/\r=t:=by
 unfold AAC at h;split at h
 ·cases h;exact ⟨by assumption,rfl⟩
 ·cases h
variable {A B:Prop}
def dD {p:Prop} {i:Decidable p} (h:p) (ha:A):aE (@decide p i) A B:=by rw[show @decide p i=true from ai h];exact ha
def eB {p:Prop} {i:Decidable p} (h:¬ p) (hb:B):aE (@decide p i) A B:=by rw[show @decide p i=false from aj h];exact hb
def L9 {p:Prop} {i:Decidable p} (h:p) (hb:B):aE (!(@decide p i)) A B:=by rw[show @decide p i=true from ai h];exact hb
def U4 {p:Prop} {i:Decidable p} (h:¬ p) (ha:A):aE (!(@decide p i)) A B:=by rw[show @decide p i=false from aj h];exact ha
def b8 {p:Prop} {i:Decidable p} (h1:p->A) (h2:¬ p->B):aE (@decide p i) A B:=by
 by_cases h:p
 ·rw[ai h];exact h1 h
 ·rw[aj h];exact h2 h
def kD {p:Prop} {i:Decidable p} (h1:¬ p->A) (h2:p->B):aE (!(@decide p i)) A B:=by
 by_cases h:p
 ·rw[ai h];exact h2 h
 ·rw[aj h];exact h1 h
def zQ {c:Bool} (h1:c=true->A) (h2:c=false->B):aE c A B:=by cases c with
 | true=>exact h1 rfl
 | false=>exact h2 rfl
def eQ {c:Bool} (h1:c=false->A) (h2:c=true->B):aE (!c) A B:=by cases c with
 | true=>exact h2 rfl
 | false=>exact h1 rfl
def bT {α:Type} (f:α->Int):List α->Int
 | []=>0
 | a::l=>if f a=0 then bT f l else f a
def gX {r:Sy} {l:List r.den} (f:r.den->Int) (hl:l.length<=140737488355328) {Body:(Int×PUnit->Prop)->Int×PUnit->r.den->Prop} {Exit:Prop}
  (hbody:∀ (X:Int×PUnit->Prop) (s:Int×PUnit) (y:r.den),y∈l->(f y=0->X (i64.wrap (s.1+1),()))->(f y≠0->bT f l=f y)->Body X s y) (hexit:bT f l=0->Exit) :
  a7 (Int×PUnit) (λ(X:Int×PUnit->Prop) (s:Int×PUnit)=>aE (decide (s.1<((List.map r.enc l).length:Int))) (aU r (List.map r.enc l) s.1 λy=>Body X s y) Exit) (0,()):=by
 refine bJ l.length (λk s=>s=((k:Int),())/\bT f l=bT f (l.drop k)) ⟨rfl,by rw[List.drop_zero]⟩ ?_;rintro X k s hk ⟨rfl,he⟩ hX;dsimp only;refine b8 (λhlt=>?_) λhge=>?_
 ·rw[ae] at hlt;have hlt:k<l.length:=by omega
  rw[bA hlt];have hd:l.drop k=l[k]::l.drop (k+1):=List.drop_eq_getElem_cons hlt;rw[hd,bT] at he;refine hbody X _ _ (ak hlt) (λh0=>?_) λh0=>by rw[he,if_neg h0]
  rw[if_pos h0] at he;exact hX _ hlt ⟨by rw[show i64.wrap ((k:Int)+1)=((k+1:Nat):Int) from aZ _ (by omega) (by omega)],he⟩
 ·rw[ae] at hge;have:k=l.length:=by omega
  subst this;rw[List.drop_length] at he;exact hexit he
end Go.Pv
namespace Go.Pv
open Go Go.Proofs IntKind
def upF (d:aG):Nat->iII->List iII->List iII×Bool
 | 0,_,_=>([],false)
 | n+1,id,l=>match cG d id with
  | none=>([],false)
  | some x=>if x.2.1=1 then (l++[id],true) else upF d n x.2.2 (l++[id])
def up (d:aG) (id:iII):List iII×Bool:=upF d 65 id []
def EK (d:aG) (id:iII):List iII:=match cG d id with
 | some _=>(up d id).1.reverse
 | none=>match partOf d id with
  | some p=>(up d (AVQ p)).1.reverse
  | none=>[]
abbrev BJ1:Sh:=[(false,.li .str)]
abbrev BSP:Sh:=[(false,.li .str),(false,.bool)]
def AAY (x:aG×iII):Option T:=some (Sh.enc BSP (up x.1 x.2))
def BE2 (x:aG×iII):Option T:=AAC x.1 (Sh.enc BJ1 (EK x.1 x.2))
abbrev yU:=BE2
def AWT {d:aG}:∀ {n:Nat} {id:iII} {l:List iII},(upF d n id l).1.length<=l.length+n
 | 0,_,_=>by simp[upF]
 | n+1,id,l=>by
  unfold upF;cases cG d id with
  | none=>simp
  | some x =>
   by_cases hx:x.2.1=1
   ·simp only[hx,if_true];simp
   ·simp only[hx,if_false];have:=AWT (d:=d) (n:=n) (id:=x.2.2) (l:=l++[id]);simp at this;omega
def AGN (d:aG) (id:iII):(up d id).1.length<=65:=by have:=AWT (d:=d) (n:=65) (id:=id) (l:=[]);simpa [up] using this
variable {l:List iII}
def E4 (h:l.length<=8000000000000) (K:Prop):bO (decide (((List.map Sy.str.enc l).length+1)*16<=140737488355328)&&decide ((List.map Sy.str.enc l).length+1<=140737488355328)) K=K:=by
 have e:(decide (((List.map Sy.str.enc l).length+1)*16<=140737488355328)&&decide ((List.map Sy.str.enc l).length+1<=140737488355328))=true:=by
  simp only[ae,ac,ah];omega
 rw[e];simp[bO]
def G3 {x:iII} (K:List iII->Prop):cD Sy.str (List.map Sy.str.enc l++[[pPQ x]]) K=K (l++[x]):=vC (r:=.str) rfl l _ x rfl K
def AIU {x:iII}:List.map Sy.str.enc l++[[pPQ x]]=List.map Sy.str.enc (l++[x]):=by simp[Sy.enc]
def BS9:Env:=Env.of [(57,.pure fQ)]
def BTA:FuncId->Hint:=bP 59 [(3,.inv [.val 1 false .str,.own 6 1 .str,.val 7 false (.int .i64)])] (λ_=>bH)
def BL3:bB Tryz.prog BS9:=.cons rI (.nil _)
def d9:List T:=[T.sl false [],pPR false]
def BTY(s1:iII×List iII×Int×PUnit):List (List T):=List.map Sy.str.enc s1.2.1++[[pPQ s1.1]]
def BL4(a0:aG)(a1:iII)(R:T->Prop):Prop:=a7 (iII×List iII×Int×PUnit) (λX0 s1=>aE (decide (s1.2.2.1<=64)) (aJ [(true,bC),(false,Sy.bool)] (fQ [aH true aF a0,pPQ s1.1]) λ(y2:eH×Bool)=>aE (!y2.2) (R (T.cB d9)) (bO (decide (((List.map Sy.str.enc s1.2.1).length+1)*16<=140737488355328) && decide ((List.map Sy.str.enc s1.2.1).length+1<=140737488355328)) (aE (decide (y2.1.2.1=1)) (R (T.cB [T.sl false (BTY s1), pPR true])) (cD Sy.str (BTY s1) λ(y3:List iII)=>X0 (y2.1.2.2,y3,i64.wrap (s1.2.2.1+1),()))))) (R (T.cB d9))) (a1,[],0,())
abbrev BQA:Sh:=[(true,aF),(false,Sy.str)]
abbrev BJ2:Sh:=[(false,Sy.str.li),(false,Sy.bool)]
def AAP (y:Sh.den BJ2) (K:Sh.den BJ2->Prop):aJ BJ2 (some (Sh.enc BJ2 y)) K=K y:=oL rfl y K
def UY:List T->Option T:=gS BQA AAY
def AD1 {a0 a1}:UY [aH true aF a0,pPQ a1]=AAY (a0,a1):=a8 (s:=BQA) rfl (a0,a1) rfl
def BSM:nJ Tryz.prog 59 UY AAY (bR BQA) BL4:=eV (a1:=(true,aF)) (a2:=(false,Sy.str)) (Hs:=BTA) (k:=8) BL3 aV aY (aQ rfl) ⟨_,_,Tryz.func59,rfl⟩ rfl λ_ _ _=>by kernel_rfl
def A9K:aT Tryz.prog 59 UY:=BSM λd id r h hb=>by
 cases h;unfold BL4 BTY d9;refine bJ 65 (λk s=>∃ id' l',s=(id',l',(k:Int),())/\l'.length=k/\upF d (65-k) id' l'=up d id) ⟨id,[],rfl,rfl,rfl⟩ ?_;rintro X k s hk ⟨id',l',rfl,hl,hu⟩ hX;dsimp only;by_cases hlt:k<65
 ·have h1:decide ((k:Int)<=64)=true:=by simp;omega
  obtain ⟨m,hm⟩:∃ m,65-k=m+1:=⟨64-k,by omega⟩
  rw[hm] at hu;simp only[upF] at hu;simp only[h1,E4 (l:=l') (by omega),G3,aE,pO,lM,kE,uT];cases hn:cG d id' with
  | none=>simp only[hn] at hu;simp only[found];rw[<-hu];rfl
  | some x =>
   simp only[hn] at hu;simp only[found,Bool.not_true];by_cases hx:x.2.1=1
   ·simp only[hx,decide_true];rw[if_pos hx] at hu;rw[<-hu,AIU];rfl
   ·simp only[hx,decide_false];rw[if_neg hx] at hu;rw[G3];refine hX _ hlt ⟨x.2.2,l'++[id'],?_,by simp[hl],by rw[<-hu];congr 1;omega⟩;simp only[Prod.mk.injEq,and_true,true_and];exact aZ _ (by omega) (by omega)
 ·have h1:decide ((k:Int)<=64)=false:=by simp;omega
  have:65-k=0:=by omega
  rw[this] at hu;rw[h1,<-hu];rfl
def AXW:Env:=Env.of [(57,.pure fQ),(11,.pure jL),(59,.pure UY)]
def AY2:FuncId->Hint:=bP 60 [(11,.inv [.own 12 1 .str,.val 13 false (.int .i64)])] (λ_=>bH)
def AHD:bB Tryz.prog AXW:=.cons rI (.cons CV (.cons A9K (.nil _)))
def eI:Sh:=[(false,Sy.str.li),(false,Sy.bool)]
def m7(y2:List iII×Bool)(R:T->Prop):Prop:=a7 (List iII×Int×PUnit) (λX3 s4=>aE (decide (0<=s4.2.1)) (aU Sy.str (List.map Sy.str.enc y2.1) s4.2.1 λ(y5:iII)=>bO (decide (((List.map Sy.str.enc s4.1).length+1)*16<=140737488355328) && decide ((List.map Sy.str.enc s4.1).length+1<=140737488355328)) (cD Sy.str (List.map Sy.str.enc s4.1++[[pPQ y5]]) λ(y6:List iII)=>X3 (y6,i64.wrap (s4.2.1-1),()))) (R (T.sl false (List.map Sy.str.enc s4.1)))) ([],i64.wrap ((↑(List.map Sy.str.enc y2.1).length:Int)-1),())
def KY(a0:aG)(a1:iII)(R:T->Prop):Prop:=aJ [(true,bC),(false,Sy.bool)] (fQ [aH true aF a0,pPQ a1]) λ(y0:eH×Bool)=>aE (!y0.2) (aJ [(true,aS),(false,Sy.bool)] (jL [aH true aF a0,pPQ a1]) λ(y1:bG×Bool)=>aE (!y1.2) (R (T.sl false [])) (aJ eI (UY [aH true aF a0,pPQ y1.1.2.2.2.1]) λ(y2:List iII×Bool)=>m7 y2 R)) (aJ eI (UY [aH true aF a0,pPQ a1]) λ(y7:List iII×Bool)=>m7 y7 R)
abbrev NI:Sh:=[(true,aF),(false,Sy.str)]
def vY:List T->Option T:=gS NI yU
def ADP {a0 a1}:vY [aH true aF a0,pPQ a1]=yU (a0,a1):=a8 (s:=NI) rfl (a0,a1) rfl
def ASI:nJ Tryz.prog 60 vY yU (bR NI) KY:=eV (a1:=(true,aF)) (a2:=(false,Sy.str)) (Hs:=AY2) (k:=8) AHD aV aY (aQ rfl) ⟨_,_,Tryz.func60,rfl⟩ rfl λ_ _ _=>by kernel_rfl
variable {R:T->Prop}
def Y4 {ls:List iII} (hl:ls.length<=65) (hR:R (T.sl false (List.map Sy.str.enc ls.reverse))):a7 (List iII×Int×PUnit)
    (λ(X8:List iII×Int×PUnit->Prop) (s9:List iII×Int×PUnit) =>
     aE (decide (0<=s9.2.1))
      (aU Sy.str (List.map Sy.str.enc ls) s9.2.1 λ(y10:iII) =>
       bO
        (decide (((List.map Sy.str.enc s9.1).length+1)*16<=140737488355328)&&decide ((List.map Sy.str.enc s9.1).length+1<=140737488355328))
        (cD Sy.str (List.map Sy.str.enc s9.1++[[pPQ y10]])
         λ(y11:List iII)=>X8 (y11,i64.wrap (s9.2.1-1),())))
      (R (T.sl false (List.map Sy.str.enc s9.1))))
    ([],i64.wrap ((↑(List.map Sy.str.enc ls).length:Int)-1),()):=by
 refine bJ ls.length (λk s=>s=(ls.reverse.take k,(ls.length:Int)-1-k,())) ?_ ?_
 ·simp only[List.take_zero,ae,Prod.mk.injEq,and_true,true_and];rw[aZ _ (by omega) (by omega)];simp
 rintro X k s hk rfl hX;by_cases hlt:k<ls.length
 ·have h1:decide (0<=(ls.length:Int)-1-k)=true:=by simp;omega
  have e:(ls.length:Int)-1-k=((ls.length-1-k:Nat):Int):=by omega
  dsimp only;rw[h1,e,bA (r:=.str) (show ls.length-1-k<ls.length by omega),E4 (by simp;omega),G3];simp only[aE];refine hX _ hlt ?_;have hg:ls.reverse.take (k+1)=ls.reverse.take k++[ls[ls.length-1-k]]:=by
   rw[List.take_succ_eq_append_getElem (by simpa using hlt)];simp
  rw[hg];simp only[Prod.mk.injEq,and_true,true_and];rw[aZ _ (by omega) (by omega)];omega
 ·have:k=ls.length:=by omega
  subst this;have h1:decide (0<=(ls.length:Int)-1-ls.length)=false:=by simp;omega
  simp only[h1,aE];rw[List.take_of_length_le (by simp)];exact hR
def AQI:aT Tryz.prog 60 vY:=ASI λd id r h hb=>by
 have h':AAC d (Sh.enc BJ1 (EK d id))=some r:=h;obtain ⟨hok,rfl⟩:=BDC h';clear h h';unfold KY m7 eI;simp only[pO,lM,kE,uT,A7,nG,uH,EL,AD1,AAY,AAP];cases hn:cG d id with
 | some x =>
  simp only[found,Bool.not_true,fL,hU];exact Y4 (AGN d id) (R:=λy=>y=Sh.enc BJ1 (EK d id)) (by simp[EK,hn,Sh.enc,aH,Sy.enc,hdT])
 | none =>
  simp only[found,Bool.not_false,fL,hU];cases hp:partOf d id with
  | none=>simp only[Bool.not_false,fL];simp[EK,hn,hp,Sh.enc,aH,Sy.enc,hdT]
  | some p =>
   simp only[Bool.not_true,fL,hU];exact Y4 (AGN d (AVQ p)) (R:=λy=>y=Sh.enc BJ1 (EK d id)) (by simp[EK,hn,hp,Sh.enc,aH,Sy.enc,hdT])
end Go.Pv
namespace Go.Pv
open Go Go.Proofs IntKind
def oR (l:List iII) (x:iII):Bool:=l.any λy=>decide (y=x)
variable {l:List iII}
def l8 {x:iII}:oR l x=true↔x∈l:=by
 simp only[oR,List.any_eq_true,ah];exact ⟨λ⟨y,h,e⟩=>e ▸ h,λh=>⟨x,h,rfl⟩⟩
def Sy.tl:Sy->Sy
 | .pr _ b=>b
 | x=>x
def MA:List iII->Nat->List (iII×Int)->List (iII×Int)
 | [],_,es=>es
 | a::l,i,es=>MA l (i+1) (match kG es a with
  | none=>zR es a (i:Int)
  | some _=>es)
def jR (l:List iII):List (iII×Int):=MA l 0 []
variable {α:Type}
def ids (l:List (iII×α)):List iII:=l.map λx=>x.1
variable {β:Type}
def oI (l:List α) (r:β):Option β:=match decide (l.length<=140737488355328) with
 | true=>some r
 | false=>none
def iR {l:List α} {t r:β} (h:oI l t=some r):l.length<=140737488355328/\r=t:=by
 unfold oI at h;split at h
 ·rename_i hc;cases h;exact ⟨of_decide_eq_true hc,rfl⟩
 ·cases h
def fH {l:List α} (t:β) (h:l.length<=140737488355328):oI l t=some t:=by unfold oI;rw[ai h]
def BHR (es:List (iII×Int)):List.map (λ(e:Value×D)=>(e.1,AGM e.2)) (List.map (dC Sy.str false (Sy.int IntKind.i64)) es)=bQ es:=by
 rw[List.map_map];rfl
def QO {r:Sy} {l:List (iII×r.den)} (hl:l.length<=140737488355328) :
 fA Sy.str false (Sy.int IntKind.i64) [] λ(y0:List (iII×Int)) =>
 a7 (List (iII×Int)×Int×PUnit)
  (λ(X1:List (iII×Int)×Int×PUnit->Prop) (s2:List (iII×Int)×Int×PUnit) =>
   aE (decide (s2.2.1<(↑l.length:Int)))
    (aU (.pr .str r) (List.map (Sy.pr .str r).enc l) s2.2.1 λ(y3:iII×r.den) =>
     jC TypeDesc.string (Value.string y3.1)
      (List.map (dC Sy.str false (Sy.int IntKind.i64)) s2.1) false
      (Sy.int IntKind.i64)
      (aU (.pr .str r) (List.map (Sy.pr .str r).enc l) s2.2.1 λ(y7:iII×r.den) =>
       qQ (Option (Nat×D))
        (findD TypeDesc.string (Value.string y7.1)
         (List.map (dC Sy.str false (Sy.int IntKind.i64)) s2.1) 0)
        λ(y8:Option (Nat×D)) =>
        fA Sy.str false (Sy.int IntKind.i64)
         (gB (List.map (dC Sy.str false (Sy.int IntKind.i64)) s2.1) y8
          (Value.string y7.1) (D.p (pPP s2.2.1)))
         λ(y9:List (iII×Int))=>X1 (y9,i64.wrap (s2.2.1+1),()))
      λ(i4:Nat) (y5:Int) =>
      fA Sy.str false (Sy.int IntKind.i64)
       (List.map (dC Sy.str false (Sy.int IntKind.i64)) s2.1)
       λ(y6:List (iII×Int))=>X1 (y6,i64.wrap (s2.2.1+1),()))
    (bO
     ((List.map (dC Sy.str false (Sy.int IntKind.i64)) s2.1).all
      λ(e:Value×D)=>A1R e.2)
     ((λy=>y=T.mp (bQ (jR (ids l))))
      (T.mp
       (List.map (λ(e:Value×D)=>(e.1,AGM e.2))
        (List.map (dC Sy.str false (Sy.int IntKind.i64)) s2.1))))))
  (y0,0,()):=by
 refine pK (r:=.int .i64) rfl [] _ ?_;refine bJ l.length (λk s=>∃ es,s=(es,(k:Int),())/\MA (ids (l.drop k)) k es=jR (ids l)) ⟨[],rfl,rfl⟩ ?_;rintro X k s hk ⟨es,rfl,hes⟩ hX;dsimp only;have hw:i64.wrap ((k:Int)+1)=((k+1:Nat):Int):=aZ _ (by omega) (by omega);by_cases hlt:k<l.length
 ·refine dD (by omega) ?_;rw[bA (r:=.pr .str r) hlt];have hd:ids (l.drop k)=l[k].1::ids (l.drop (k+1)):=by rw[List.drop_eq_getElem_cons hlt];rfl
  rw[hd] at hes;simp only[MA] at hes;refine HC (r:=.int .i64) (λhno=>?_) (λi v hv=>?_)
  ·rw[hno] at hes;rw[bA (r:=.pr .str r) hlt];exact BBG (r:=.int .i64) rfl (v:=(k:Int)) (hX _ hlt ⟨_,by rw[hw],hes⟩)
  ·rw[hv] at hes;exact pK (r:=.int .i64) rfl es _ (hX _ hlt ⟨_,by rw[hw],hes⟩)
 ·have:k=l.length:=by omega
  subst this;refine eB (by omega) ?_;rw[List.drop_length] at hes;refine ⟨?_,?_⟩
  ·rw[List.all_eq_true];intro e he;obtain ⟨x,_,rfl⟩:=List.mem_map.1 he;rfl
  ·show T.mp _=_;rw[BHR];rw[<-hes];rfl
def uY (a0:aG):List T:=[pPP (a0.2.1.length:Int),T.fn 103 [] [T.ref [T.ref (aF.enc a0)]]]
def BKT:FuncId->Hint:=bP 102 [(3,.inv [.map 0 .str false (.int .i64),.val 12 false (.int .i64)])] (λ_=>bH)
def d3:Sy:=Sy.int IntKind.i64
def m9(s2:List aI×Int×PUnit)(R:T->Prop):Prop:=bO ((List.map (dC Sy.str false d3) s2.1).all λ(e:Value×D)=>A1R e.2) (R (T.mp (List.map (λ(e:Value×D)=>(e.1,AGM e.2)) (List.map (dC Sy.str false d3) s2.1))))
def IR(s2:List aI×Int×PUnit)(X1:List aI×Int×PUnit->Prop):Prop:=fA Sy.str false d3 (List.map (dC Sy.str false d3) s2.1) λ(y6:List aI)=>X1 (y6,i64.wrap (s2.2.1+1),())
def A5X(a0:aG)(R:T->Prop):Prop:=fA Sy.str false d3 [] λ(y0:List aI)=>a7 (List aI×Int×PUnit) (λX1 s2=>aE (decide (s2.2.1<(↑a0.2.1.length:Int))) (aU bC (GE a0) s2.2.1 λ(y3:eH)=>jC TypeDesc.string (Value.string y3.1) (List.map (dC Sy.str false d3) s2.1) false d3 (aU bC (GE a0) s2.2.1 λ(y7:eH)=>qQ (Option (Nat×D)) (findD TypeDesc.string (Value.string y7.1) (List.map (dC Sy.str false d3) s2.1) 0) λ(y8:Option (Nat×D))=>fA Sy.str false d3 (gB (List.map (dC Sy.str false d3) s2.1) y8 (Value.string y7.1) (D.p (pPP s2.2.1))) λ(y9:List aI)=>X1 (y9,i64.wrap (s2.2.1+1),())) λ(i4:Nat) (y5:Int)=>IR s2 X1) (m9 s2 R)) (y0,0,())
def A5Y ( a0 R):uU cA Tryz.prog oU BKT 8 102 (uY a0) R=A5X a0 R:=by kernel_rfl
def ATU (d:aG):Option (List (iII×Int)):=oI d.2.1 (jR (ids d.2.1))
def AXB (d d':aG) (h:uY d=uY d'):d=d':=by
 unfold uY at h;simp only[List.cons.injEq,T.fn.injEq,T.ref.injEq,and_true,true_and] at h;exact Sy.eU aF _ _ h.2
def AJY:List T->Option (List (iII×Int)):=gA (λ(x:aG)=>uY x) ATU
def BAE (a0:aG):AJY (uY a0)=ATU a0:=gF (A:=(λ(x:aG)=>uY x)) AXB a0
def BPC (h:∀ (a0:aG) (r:List (iII×Int)),ATU a0=some r->(∀ t∈uY a0,Bd t)->A5X a0 (λy=>y = .mp (bQ r))):j9 Tryz.prog 102 (uO AJY) :=
 HE (E:=oU) (Hs:=BKT) (bM _) aV aY (aQ rfl) 8 ⟨_,_,Tryz.func102,rfl⟩ λx r h1 h2=>by
  rw[A5Y];exact h x r h1 h2
def BNE:j9 Tryz.prog 102 (uO AJY):=BPC λd r h hb=>by
 obtain ⟨hl,rfl⟩:=iR h;unfold A5X IR m9 GE d3;exact QO (r:=bC.tl) (l:=d.2.1) hl
def uZ (a0:aG):List T:=[pPP (a0.2.2.1.length:Int),T.fn 104 [] [T.ref [T.ref (aF.enc a0)]]]
def BKU:FuncId->Hint:=bP 102 [(3,.inv [.map 0 .str false (.int .i64),.val 12 false (.int .i64)])] (λ_=>bH)
def A5Z(a0:aG)(R:T->Prop):Prop:=fA Sy.str false d3 [] λ(y0:List aI)=>a7 (List aI×Int×PUnit) (λX1 s2=>aE (decide (s2.2.1<(↑a0.2.2.1.length:Int))) (aU aS (LT a0) s2.2.1 λ(y3:bG)=>jC TypeDesc.string (Value.string y3.1) (List.map (dC Sy.str false d3) s2.1) false d3 (aU aS (LT a0) s2.2.1 λ(y7:bG)=>qQ (Option (Nat×D)) (findD TypeDesc.string (Value.string y7.1) (List.map (dC Sy.str false d3) s2.1) 0) λ(y8:Option (Nat×D))=>fA Sy.str false d3 (gB (List.map (dC Sy.str false d3) s2.1) y8 (Value.string y7.1) (D.p (pPP s2.2.1))) λ(y9:List aI)=>X1 (y9,i64.wrap (s2.2.1+1),())) λ(i4:Nat) (y5:Int)=>IR s2 X1) (m9 s2 R)) (y0,0,())
def A50 ( a0 R):uU cA Tryz.prog oU BKU 8 102 (uZ a0) R=A5Z a0 R:=by kernel_rfl
def ATV (d:aG):Option (List (iII×Int)):=oI d.2.2.1 (jR (ids d.2.2.1))
def AXC (d d':aG) (h:uZ d=uZ d'):d=d':=by
 unfold uZ at h;simp only[List.cons.injEq,T.fn.injEq,T.ref.injEq,and_true,true_and] at h;exact Sy.eU aF _ _ h.2
def AJZ:List T->Option (List (iII×Int)):=gA (λ(x:aG)=>uZ x) ATV
def BAF (a0:aG):AJZ (uZ a0)=ATV a0:=gF (A:=(λ(x:aG)=>uZ x)) AXC a0
def BPD (h:∀ (a0:aG) (r:List (iII×Int)),ATV a0=some r->(∀ t∈uZ a0,Bd t)->A5Z a0 (λy=>y = .mp (bQ r))):j9 Tryz.prog 102 (uO AJZ) :=
 HE (E:=oU) (Hs:=BKU) (bM _) aV aY (aQ rfl) 8 ⟨_,_,Tryz.func102,rfl⟩ λx r h1 h2=>by
  rw[A50];exact h x r h1 h2
def BNF:j9 Tryz.prog 102 (uO AJZ):=BPD λd r h hb=>by
 obtain ⟨hl,rfl⟩:=iR h;unfold A5Z IR m9 LT d3;exact QO (r:=aS.tl) (l:=d.2.2.1) hl
def u5 (a0:aG):List T:=[pPP (a0.2.2.2.1.length:Int),T.fn 105 [] [T.ref [T.ref (aF.enc a0)]]]
def BKV:FuncId->Hint:=bP 102 [(3,.inv [.map 0 .str false (.int .i64),.val 12 false (.int .i64)])] (λ_=>bH)
def A51(a0:aG)(R:T->Prop):Prop:=fA Sy.str false d3 [] λ(y0:List aI)=>a7 (List aI×Int×PUnit) (λX1 s2=>aE (decide (s2.2.1<(↑a0.2.2.2.1.length:Int))) (aU bI (LE a0) s2.2.1 λ(y3:gE)=>jC TypeDesc.string (Value.string y3.1) (List.map (dC Sy.str false d3) s2.1) false d3 (aU bI (LE a0) s2.2.1 λ(y7:gE)=>qQ (Option (Nat×D)) (findD TypeDesc.string (Value.string y7.1) (List.map (dC Sy.str false d3) s2.1) 0) λ(y8:Option (Nat×D))=>fA Sy.str false d3 (gB (List.map (dC Sy.str false d3) s2.1) y8 (Value.string y7.1) (D.p (pPP s2.2.1))) λ(y9:List aI)=>X1 (y9,i64.wrap (s2.2.1+1),())) λ(i4:Nat) (y5:Int)=>IR s2 X1) (m9 s2 R)) (y0,0,())
def A52 ( a0 R):uU cA Tryz.prog oU BKV 8 102 (u5 a0) R=A51 a0 R:=by kernel_rfl
def ATW (d:aG):Option (List (iII×Int)):=oI d.2.2.2.1 (jR (ids d.2.2.2.1))
def AXD (d d':aG) (h:u5 d=u5 d'):d=d':=by
 unfold u5 at h;simp only[List.cons.injEq,T.fn.injEq,T.ref.injEq,and_true,true_and] at h;exact Sy.eU aF _ _ h.2
def AJ0:List T->Option (List (iII×Int)):=gA (λ(x:aG)=>u5 x) ATW
def BAG (a0:aG):AJ0 (u5 a0)=ATW a0:=gF (A:=(λ(x:aG)=>u5 x)) AXD a0
def BPE (h:∀ (a0:aG) (r:List (iII×Int)),ATW a0=some r->(∀ t∈u5 a0,Bd t)->A51 a0 (λy=>y = .mp (bQ r))):j9 Tryz.prog 102 (uO AJ0) :=
 HE (E:=oU) (Hs:=BKV) (bM _) aV aY (aQ rfl) 8 ⟨_,_,Tryz.func102,rfl⟩ λx r h1 h2=>by
  rw[A52];exact h x r h1 h2
def BNG:j9 Tryz.prog 102 (uO AJ0):=BPE λd r h hb=>by
 obtain ⟨hl,rfl⟩:=iR h;unfold A51 IR m9 LE d3;exact QO (r:=bI.tl) (l:=d.2.2.2.1) hl
def u6 (a0:aG):List T:=[pPP (a0.2.2.2.2.1.length:Int),T.fn 106 [] [T.ref [T.ref (aF.enc a0)]]]
def BKW:FuncId->Hint:=bP 102 [(3,.inv [.map 0 .str false (.int .i64),.val 12 false (.int .i64)])] (λ_=>bH)
def IO(a0:aG):List (List T):=List.map aK.enc a0.2.2.2.2.1
def A53(a0:aG)(R:T->Prop):Prop:=fA Sy.str false d3 [] λ(y0:List aI)=>a7 (List aI×Int×PUnit) (λX1 s2=>aE (decide (s2.2.1<(↑a0.2.2.2.2.1.length:Int))) (aU aK (IO a0) s2.2.1 λ(y3:bE)=>jC TypeDesc.string (Value.string y3.1) (List.map (dC Sy.str false d3) s2.1) false d3 (aU aK (IO a0) s2.2.1 λ(y7:bE)=>qQ (Option (Nat×D)) (findD TypeDesc.string (Value.string y7.1) (List.map (dC Sy.str false d3) s2.1) 0) λ(y8:Option (Nat×D))=>fA Sy.str false d3 (gB (List.map (dC Sy.str false d3) s2.1) y8 (Value.string y7.1) (D.p (pPP s2.2.1))) λ(y9:List aI)=>X1 (y9,i64.wrap (s2.2.1+1),())) λ(i4:Nat) (y5:Int)=>IR s2 X1) (m9 s2 R)) (y0,0,())
def A54 ( a0 R):uU cA Tryz.prog oU BKW 8 102 (u6 a0) R=A53 a0 R:=by kernel_rfl
def ATX (d:aG):Option (List (iII×Int)):=oI d.2.2.2.2.1 (jR (ids d.2.2.2.2.1))
def AXE (d d':aG) (h:u6 d=u6 d'):d=d':=by
 unfold u6 at h;simp only[List.cons.injEq,T.fn.injEq,T.ref.injEq,and_true,true_and] at h;exact Sy.eU aF _ _ h.2
def AJ1:List T->Option (List (iII×Int)):=gA (λ(x:aG)=>u6 x) ATX
def BAH (a0:aG):AJ1 (u6 a0)=ATX a0:=gF (A:=(λ(x:aG)=>u6 x)) AXE a0
def BPF (h:∀ (a0:aG) (r:List (iII×Int)),ATX a0=some r->(∀ t∈u6 a0,Bd t)->A53 a0 (λy=>y = .mp (bQ r))):j9 Tryz.prog 102 (uO AJ1) :=
 HE (E:=oU) (Hs:=BKW) (bM _) aV aY (aQ rfl) 8 ⟨_,_,Tryz.func102,rfl⟩ λx r h1 h2=>by
  rw[A54];exact h x r h1 h2
def BNH:j9 Tryz.prog 102 (uO AJ1):=BPF λd r h hb=>by
 obtain ⟨hl,rfl⟩:=iR h;unfold A53 IR m9 IO d3;exact QO (r:=aK.tl) (l:=d.2.2.2.2.1) hl
end Go.Pv
namespace Go.Pv
open Go Go.Proofs IntKind
variable {α:Type}
def orG (g1 g2:List T->Option α) (a:List T):Option α:=match g1 a with
 | some r=>some r
 | none=>g2 a
variable {g1 g2:List T->Option α}
def VS {a:List T} {r:α} (h:g1 a=some r):orG g1 g2 a=some r:=by unfold orG;rw[h]
def qS {a:List T} (h:g1 a=none):orG g1 g2 a=g2 a:=by unfold orG;rw[h]
def AAG {a:List T} {r:α} (h:orG g1 g2 a=some r):g1 a=some r\/g2 a=some r:=by
 unfold orG at h;split at h
 ·rename_i r' h1;cases h;exact .inl h1
 ·exact .inr h
variable {P:Program}
def aT.or {f:FuncId} {g1 g2:List T->Option T} (h1:aT P f g1) (h2:aT P f g2):aT P f (orG g1 g2):=⟨h1.entry,λw own args vs r hG ho ha hr=>by
 rcases AAG hr with h|h
 ·exact h1.calls w own args vs r hG ho ha h
 ·exact h2.calls w own args vs r hG ho ha h⟩
def j9.orM {f:FuncId} {g1 g2:List T->Option (List (iII×Int))} (h1:j9 P f (uO g1)) (h2:j9 P f (uO g2)):j9 P f (uO (orG g1 g2)):=⟨h1.entry,λw own args vs r hG ho ha hr=>by
 simp only[uO,aa] at hr;obtain ⟨es,h,rfl⟩:=hr;rcases AAG h with h|h
 ·exact h1.calls w own args vs _ hG ho ha (by simp[uO,h])
 ·exact h2.calls w own args vs _ hG ho ha (by simp[uO,h])⟩
def A1F:List T->Option (List (iII×Int)):=orG AJY (orG AJZ (orG AJ0 AJ1))
def BRY:j9 Tryz.prog 102 (uO A1F):=.orM BNE (.orM BNF (.orM BNG BNH))
def jF {X:Type} {A:X->List T} {sp:X->Option α} {args:List T} (h:∀ x,args≠A x):gA A sp args=none:=by
 unfold gA;rw[dif_neg];rintro ⟨x,hx⟩;exact h x hx
def oG:List iII->Bool
 | a::b::l=>!(cK b a||decide (b=a))&&oG (b::l)
 | _=>true
variable {l:List iII}
def AIB {k:Nat} (h:k+1<l.length):oG (l.drop k)=(!(cK l[k+1] l[k]||decide (l[k+1]=l[k]))&&oG (l.drop (k+1))):=by
 rw[List.drop_eq_getElem_cons (show k<l.length by omega),List.drop_eq_getElem_cons h,oG]
def AUO {k:Nat} (h:l.length<=k+1):oG (l.drop k)=true:=by
 rcases Nat.lt_or_ge k l.length with h1|h1
 ·rw[List.drop_eq_getElem_cons h1,List.drop_eq_nil_of_le h];rfl
 ·rw[List.drop_eq_nil_of_le h1];rfl
variable {R:T->Prop}
def JO {r:Sy} {p:r.den->iII} {l:List r.den} (hl:l.length<=140737488355328) (hR:R (pPR (oG (l.map p)))) :
 a7 (Int×PUnit)
 (λ(X0:Int×PUnit->Prop) (s1:Int×PUnit) =>
  aE (decide (s1.1<(↑l.length:Int)))
   (aU r (List.map r.enc l) s1.1 λ(y2:r.den) =>
    aU r (List.map r.enc l) (i64.wrap (s1.1-1))
     λ(y3:r.den) =>
     aE (cK (p y2) (p y3)||decide (p y2=p y3)) (R (pPR false))
      (X0 (i64.wrap (s1.1+1),())))
   (R (pPR true)))
 (1,()):=by
 refine bJ l.length (λk s=>s=(((k+1:Nat):Int),())/\oG (l.map p)=oG ((l.map p).drop k)) ⟨rfl,by rw[List.drop_zero]⟩ ?_;rintro X k s hk ⟨rfl,he⟩ hX;dsimp only;have hw:i64.wrap (((k+1:Nat):Int)+1)=((k+1+1:Nat):Int):=aZ _ (by omega) (by omega);have hw1:i64.wrap (((k+1:Nat):Int)-1)=((k:Nat):Int):=by rw[aZ _ (by omega) (by omega)];omega
 by_cases hlt:k+1<l.length
 ·refine dD (by omega) ?_;rw[bA hlt,hw1,bA (show k<l.length by omega)];rw[AIB (by rw[ae];exact hlt)] at he;rw[List.getElem_map,List.getElem_map] at he;cases hc:(cK (p l[k+1]) (p l[k])||decide (p l[k+1]=p l[k])) with
  | true =>
   rw[fL];rw[hc,Bool.not_true,Bool.false_and] at he;rwa[he] at hR
  | false =>
   rw[hU];rw[hc,Bool.not_false,Bool.true_and] at he;exact hX _ (by omega) ⟨by rw[hw],he⟩
 ·refine eB (by omega) ?_;rw[AUO (by rw[ae];omega)] at he;rwa[he] at hR
def tL (a0:List iII):List T:=[pPP (a0.length:Int),T.fn 270 [] [T.ref [T.sl false (List.map Sy.str.enc a0)]]]
def BK2:FuncId->Hint:=bP 107 [(2,.inv [.val 5 false (.int .i64)])] (λ_=>bH)
def d4:T:=pPR false
def d7:T:=pPR true
def GT(a0:List iII):List (List T):=List.map Sy.str.enc a0
def A6P(a0:List iII)(R:T->Prop):Prop:=a7 (Int×PUnit) (λX0 s1=>aE (decide (s1.1<(↑a0.length:Int))) (aU Sy.str (GT a0) s1.1 λ(y2:iII)=>aU Sy.str (GT a0) (i64.wrap (s1.1-1)) λ(y3:iII)=>aE (cK y2 y3||decide (y2=y3)) (R d4) (g9 X0 s1)) (R d7)) (1,())
def A6Q ( a0 R):fE cA Tryz.prog oU BK2 8 107 (tL a0) R=A6P a0 R:=by kernel_rfl
def AT3 (l:List iII):Option T:=oI l (pPR (oG l))
def AXK (d d':List iII) (h:tL d=tL d'):d=d':=by
 unfold tL at h;simp only[List.cons.injEq,T.fn.injEq,T.ref.injEq,and_true,true_and,T.sl.injEq] at h;exact map_inj (Sy.eU .str) h.2
def AKY:List T->Option (T):=gA (λ(x:List iII)=>tL x) AT3
def BAY (a0:List iII):AKY (tL a0)=AT3 a0:=gF (A:=(λ(x:List iII)=>tL x)) AXK a0
def BPX (h:∀ (a0:List iII) (r:T),AT3 a0=some r->(∀ t∈tL a0,Bd t)->A6P a0 (λy=>y=r)):aT Tryz.prog 107 AKY :=
 dA (E:=oU) (Hs:=BK2) (bM _) aV aY (aQ rfl) 8 ⟨_,_,Tryz.func107,rfl⟩ λx r h1 h2=>by
  rw[A6Q];exact h x r h1 h2
def BNY:aT Tryz.prog 107 AKY:=BPX λl r h hb=>by
 obtain ⟨hl,rfl⟩:=iR h;unfold A6P GT g9 d7 d4;exact JO (r:=.str) (p:=λy=>y) (R:=λy=>y=pPR (oG l)) hl (by simp)
def tH (a0:aG):List T:=[pPP (a0.2.1.length:Int),T.fn 108 [] [T.ref [T.ref (aF.enc a0)]]]
def BKY:FuncId->Hint:=bP 107 [(2,.inv [.val 5 false (.int .i64)])] (λ_=>bH)
def A6H(a0:aG)(R:T->Prop):Prop:=a7 (Int×PUnit) (λX0 s1=>aE (decide (s1.1<(↑a0.2.1.length:Int))) (aU bC (GE a0) s1.1 λ(y2:eH)=>aU bC (GE a0) (i64.wrap (s1.1-1)) λ(y3:eH)=>aE (cK y2.1 y3.1||decide (y2.1=y3.1)) (R d4) (g9 X0 s1)) (R d7)) (1,())
def A6I ( a0 R):fE cA Tryz.prog oU BKY 8 107 (tH a0) R=A6H a0 R:=by kernel_rfl
def ATZ (d:aG):Option T:=oI d.2.1 (pPR (oG (ids d.2.1)))
def AXG (d d':aG) (h:tH d=tH d'):d=d':=by
 unfold tH at h;simp only[List.cons.injEq,T.fn.injEq,T.ref.injEq,and_true,true_and] at h;exact Sy.eU aF _ _ h.2
def AKU:List T->Option (T):=gA (λ(x:aG)=>tH x) ATZ
def BAU (a0:aG):AKU (tH a0)=ATZ a0:=gF (A:=(λ(x:aG)=>tH x)) AXG a0
def BPT (h:∀ (a0:aG) (r:T),ATZ a0=some r->(∀ t∈tH a0,Bd t)->A6H a0 (λy=>y=r)):aT Tryz.prog 107 AKU :=
 dA (E:=oU) (Hs:=BKY) (bM _) aV aY (aQ rfl) 8 ⟨_,_,Tryz.func107,rfl⟩ λx r h1 h2=>by
  rw[A6I];exact h x r h1 h2
def BNU:aT Tryz.prog 107 AKU:=BPT λd r h hb=>by
 obtain ⟨hl,rfl⟩:=iR h;unfold A6H g9 GE d7 d4;exact JO (r:=bC) (p:=λy=>y.1) (R:=λy=>y=pPR (oG (ids d.2.1))) hl rfl
def tI (a0:aG):List T:=[pPP (a0.2.2.1.length:Int),T.fn 109 [] [T.ref [T.ref (aF.enc a0)]]]
def BKZ:FuncId->Hint:=bP 107 [(2,.inv [.val 5 false (.int .i64)])] (λ_=>bH)
def A6J(a0:aG)(R:T->Prop):Prop:=a7 (Int×PUnit) (λX0 s1=>aE (decide (s1.1<(↑a0.2.2.1.length:Int))) (aU aS (LT a0) s1.1 λ(y2:bG)=>aU aS (LT a0) (i64.wrap (s1.1-1)) λ(y3:bG)=>aE (cK y2.1 y3.1||decide (y2.1=y3.1)) (R d4) (g9 X0 s1)) (R d7)) (1,())
def A6K ( a0 R):fE cA Tryz.prog oU BKZ 8 107 (tI a0) R=A6J a0 R:=by kernel_rfl
def AT0 (d:aG):Option T:=oI d.2.2.1 (pPR (oG (ids d.2.2.1)))
def AXH (d d':aG) (h:tI d=tI d'):d=d':=by
 unfold tI at h;simp only[List.cons.injEq,T.fn.injEq,T.ref.injEq,and_true,true_and] at h;exact Sy.eU aF _ _ h.2
def AKV:List T->Option (T):=gA (λ(x:aG)=>tI x) AT0
def BAV (a0:aG):AKV (tI a0)=AT0 a0:=gF (A:=(λ(x:aG)=>tI x)) AXH a0
def BPU (h:∀ (a0:aG) (r:T),AT0 a0=some r->(∀ t∈tI a0,Bd t)->A6J a0 (λy=>y=r)):aT Tryz.prog 107 AKV :=
 dA (E:=oU) (Hs:=BKZ) (bM _) aV aY (aQ rfl) 8 ⟨_,_,Tryz.func107,rfl⟩ λx r h1 h2=>by
  rw[A6K];exact h x r h1 h2
def BNV:aT Tryz.prog 107 AKV:=BPU λd r h hb=>by
 obtain ⟨hl,rfl⟩:=iR h;unfold A6J g9 LT d7 d4;exact JO (r:=aS) (p:=λy=>y.1) (R:=λy=>y=pPR (oG (ids d.2.2.1))) hl rfl
def tJ (a0:aG):List T:=[pPP (a0.2.2.2.1.length:Int),T.fn 110 [] [T.ref [T.ref (aF.enc a0)]]]
def BK0:FuncId->Hint:=bP 107 [(2,.inv [.val 5 false (.int .i64)])] (λ_=>bH)
def A6L(a0:aG)(R:T->Prop):Prop:=a7 (Int×PUnit) (λX0 s1=>aE (decide (s1.1<(↑a0.2.2.2.1.length:Int))) (aU bI (LE a0) s1.1 λ(y2:gE)=>aU bI (LE a0) (i64.wrap (s1.1-1)) λ(y3:gE)=>aE (cK y2.1 y3.1||decide (y2.1=y3.1)) (R d4) (g9 X0 s1)) (R d7)) (1,())
def A6M ( a0 R):fE cA Tryz.prog oU BK0 8 107 (tJ a0) R=A6L a0 R:=by kernel_rfl
def AT1 (d:aG):Option T:=oI d.2.2.2.1 (pPR (oG (ids d.2.2.2.1)))
def AXI (d d':aG) (h:tJ d=tJ d'):d=d':=by
 unfold tJ at h;simp only[List.cons.injEq,T.fn.injEq,T.ref.injEq,and_true,true_and] at h;exact Sy.eU aF _ _ h.2
def AKW:List T->Option (T):=gA (λ(x:aG)=>tJ x) AT1
def BAW (a0:aG):AKW (tJ a0)=AT1 a0:=gF (A:=(λ(x:aG)=>tJ x)) AXI a0
def BPV (h:∀ (a0:aG) (r:T),AT1 a0=some r->(∀ t∈tJ a0,Bd t)->A6L a0 (λy=>y=r)):aT Tryz.prog 107 AKW :=
 dA (E:=oU) (Hs:=BK0) (bM _) aV aY (aQ rfl) 8 ⟨_,_,Tryz.func107,rfl⟩ λx r h1 h2=>by
  rw[A6M];exact h x r h1 h2
def BNW:aT Tryz.prog 107 AKW:=BPV λd r h hb=>by
 obtain ⟨hl,rfl⟩:=iR h;unfold A6L g9 LE d7 d4;exact JO (r:=bI) (p:=λy=>y.1) (R:=λy=>y=pPR (oG (ids d.2.2.2.1))) hl rfl
def tK (a0:aG):List T:=[pPP (a0.2.2.2.2.1.length:Int),T.fn 111 [] [T.ref [T.ref (aF.enc a0)]]]
def BK1:FuncId->Hint:=bP 107 [(2,.inv [.val 5 false (.int .i64)])] (λ_=>bH)
def A6N(a0:aG)(R:T->Prop):Prop:=a7 (Int×PUnit) (λX0 s1=>aE (decide (s1.1<(↑a0.2.2.2.2.1.length:Int))) (aU aK (IO a0) s1.1 λ(y2:bE)=>aU aK (IO a0) (i64.wrap (s1.1-1)) λ(y3:bE)=>aE (cK y2.1 y3.1||decide (y2.1=y3.1)) (R d4) (g9 X0 s1)) (R d7)) (1,())
def A6O ( a0 R):fE cA Tryz.prog oU BK1 8 107 (tK a0) R=A6N a0 R:=by kernel_rfl
def AT2 (d:aG):Option T:=oI d.2.2.2.2.1 (pPR (oG (ids d.2.2.2.2.1)))
def AXJ (d d':aG) (h:tK d=tK d'):d=d':=by
 unfold tK at h;simp only[List.cons.injEq,T.fn.injEq,T.ref.injEq,and_true,true_and] at h;exact Sy.eU aF _ _ h.2
def AKX:List T->Option (T):=gA (λ(x:aG)=>tK x) AT2
def BAX (a0:aG):AKX (tK a0)=AT2 a0:=gF (A:=(λ(x:aG)=>tK x)) AXJ a0
def BPW (h:∀ (a0:aG) (r:T),AT2 a0=some r->(∀ t∈tK a0,Bd t)->A6N a0 (λy=>y=r)):aT Tryz.prog 107 AKX :=
 dA (E:=oU) (Hs:=BK1) (bM _) aV aY (aQ rfl) 8 ⟨_,_,Tryz.func107,rfl⟩ λx r h1 h2=>by
  rw[A6O];exact h x r h1 h2
def BNX:aT Tryz.prog 107 AKX:=BPW λd r h hb=>by
 obtain ⟨hl,rfl⟩:=iR h;unfold A6N g9 IO d7 d4;exact JO (r:=aK) (p:=λy=>y.1) (R:=λy=>y=pPR (oG (ids d.2.2.2.2.1))) hl rfl
def zP:List T->Option T:=orG AKU (orG AKV (orG AKW (orG AKX AKY)))
def BLF:aT Tryz.prog 107 zP:=.or BNU (.or BNV (.or BNW (.or BNX BNY)))
def BN2 {d:aG} (h:d.2.1.length<=140737488355328):A1F (uY d)=some (jR (ids d.2.1)):=by
 have h1:AJY (uY d)=some (jR (ids d.2.1)):=by rw[BAE];exact fH _ h
 exact (VS h1)
def BN6 {d:aG} (h:d.2.1.length<=140737488355328):zP (tH d)=some (pPR (oG (ids d.2.1))):=by
 have h1:AKU (tH d)=some (pPR (oG (ids d.2.1))):=by rw[BAU];exact fH _ h
 exact (VS h1)
def BN3 {d:aG} (h:d.2.2.1.length<=140737488355328):A1F (uZ d)=some (jR (ids d.2.2.1)):=by
 have h1:AJZ (uZ d)=some (jR (ids d.2.2.1)):=by rw[BAF];exact fH _ h
 exact ((qS (jF λx h=>by simp[uY,uZ] at h)).trans (VS h1))
def BN7 {d:aG} (h:d.2.2.1.length<=140737488355328):zP (tI d)=some (pPR (oG (ids d.2.2.1))):=by
 have h1:AKV (tI d)=some (pPR (oG (ids d.2.2.1))):=by rw[BAV];exact fH _ h
 exact ((qS (jF λx h=>by simp[tH,tI] at h)).trans (VS h1))
def BN4 {d:aG} (h:d.2.2.2.1.length<=140737488355328):A1F (u5 d)=some (jR (ids d.2.2.2.1)):=by
 have h1:AJ0 (u5 d)=some (jR (ids d.2.2.2.1)):=by rw[BAG];exact fH _ h
 exact ((qS (jF λx h=>by simp[uY,u5] at h)).trans ((qS (jF λx h=>by simp[uZ,u5] at h)).trans (VS h1)))
def BN8 {d:aG} (h:d.2.2.2.1.length<=140737488355328):zP (tJ d)=some (pPR (oG (ids d.2.2.2.1))):=by
 have h1:AKW (tJ d)=some (pPR (oG (ids d.2.2.2.1))):=by rw[BAW];exact fH _ h
 exact ((qS (jF λx h=>by simp[tH,tJ] at h)).trans ((qS (jF λx h=>by simp[tI,tJ] at h)).trans (VS h1)))
def BN5 {d:aG} (h:d.2.2.2.2.1.length<=140737488355328):A1F (u6 d)=some (jR (ids d.2.2.2.2.1)):=by
 have h1:AJ1 (u6 d)=some (jR (ids d.2.2.2.2.1)):=by rw[BAH];exact fH _ h
 exact ((qS (jF λx h=>by simp[uY,u6] at h)).trans ((qS (jF λx h=>by simp[uZ,u6] at h)).trans ((qS (jF λx h=>by simp[u5,u6] at h)).trans h1)))
def BN9 {d:aG} (h:d.2.2.2.2.1.length<=140737488355328):zP (tK d)=some (pPR (oG (ids d.2.2.2.2.1))):=by
 have h1:AKX (tK d)=some (pPR (oG (ids d.2.2.2.2.1))):=by rw[BAX];exact fH _ h
 exact ((qS (jF λx h=>by simp[tH,tK] at h)).trans ((qS (jF λx h=>by simp[tI,tK] at h)).trans ((qS (jF λx h=>by simp[tJ,tK] at h)).trans (VS h1))))
def BAZ (h:l.length<=140737488355328):zP (tL l)=some (pPR (oG l)):=by
 have h1:AKY (tL l)=some (pPR (oG l)):=by rw[BAY];exact fH _ h
 exact ((qS (jF λx h=>by simp[tH,tL] at h)).trans ((qS (jF λx h=>by simp[tI,tL] at h)).trans ((qS (jF λx h=>by simp[tJ,tL] at h)).trans ((qS (jF λx h=>by simp[tK,tL] at h)).trans h1))))
abbrev XQ (d:aG) (m1 m2 m3 m4:List (iII×Int)):T:=T.ref [T.ref (aF.enc d),T.mp (bQ m1),T.mp (bQ m2),T.mp (bQ m3),T.mp (bQ m4)]
end Go.Pv
namespace Go.Pv
open Go Go.Proofs IntKind
abbrev D4:Sh:=[(false,.bool)]
abbrev BJZ:Sh:=[(false,.li .str)]
def CC (x:iII×iII):Option T:=match decide (x.1.size<4294967281),decide (1<=x.2.size) with
 | true,true=>some (Sh.enc BJZ (Lib.splitB x.2 0 (Lib.countB x.1 x.2) x.1))
 | _,_=>none
def BF:List T->Option T:=gS [(false,.str),(false,.str)] CC
def AK4 {a b:iII}:BF [pPQ a,pPQ b]=CC (a,b):=a8 (s:=[(false,.str),(false,.str)]) rfl (a,b) rfl
def A0Z:aT Tryz.prog 257 BF:=by
 refine ⟨T8.entry,λw own args vs r hG ho ha hg=>?_⟩;obtain ⟨⟨a,b⟩,rfl,hx⟩:=CX hg;unfold CC at hx;split at hx
 ·rename_i h1 h2;cases hx;have hs:LV [.v (.string a),.v (.string b)]=some (.sl true ((Lib.splitB b 0 (Lib.countB a b) a).map λx=>[.v (.string x)])):=by
   unfold LV;simp only[h1,h2]
  refine (T8.calls w own _ vs _ hG ho ha hs).mono ?_;rintro e w' ⟨v,rfl,hr,hb⟩;exact ⟨v,rfl,hr.canon 0,hb⟩
 ·cases hx
end Go.Pv
namespace Go.Pv
open Go Go.Proofs IntKind
def jG (n:Int):Bool:=(decide (97<=n)&&decide (n<=122))||(decide (65<=n)&&decide (n<=90))
def qL (n:Int):Bool:=decide (48<=n)&&decide (n<=57)
def nameAt (i:Nat) (b:UInt8):Bool:=jG b.toNat||(decide (i≠0)&&(qL b.toNat||decide ((b.toNat:Int)=95)||decide ((b.toNat:Int)=45)))
def isName (s:iII):Bool:=decide (s.size≠0)&&decide (s.size<=16)&&(List.range s.size).all λi=>match s.data[i]? with|some b=>nameAt i b|none=>true
def DE (n:Int):Option T:=some (Sh.enc D4 (jG n))
def JV (n:Int):Option T:=some (Sh.enc D4 (qL n))
def qC (s:iII):Option T:=some (Sh.enc D4 (isName s))
abbrev w3:=qC
def BKC (l:List iII):Int:=(l.length:Int)-1+qG l
def w7 (s:iII):Option T:=match decide (s.size<=1099511627776) with
 | true=>some (Sh.enc BJZ (dZ s))
 | false=>none
def w5 (l:List iII):Option T:=match decide (l.length<=65)&&decide (qG l<=64) with
 | true=>some (Sh.enc D4 (l.all isName&&(decide (1<=l.length)&&decide (l.length<=8)&&decide (BKC l<=64))))
 | false=>none
def kH (s:iII):Bool:=decide (s.size<=64)&&decide ((dZ s).length<=8)&&(dZ s).all isName
def J0 (s:iII):Option T:=some (Sh.enc D4 (kH s))
def nE (s:iII):Option T:=match decide (s.size<=1099511627776) with
 | true=>some (Sh.enc D4 (kH s))
 | false=>none
def lB {n:Nat} {f:Nat->Bool}:(List.range n).all f=true↔∀ i,i<n->f i=true:=by simp
def ZZ {s:iII} (h0:s.size≠0) (h1:s.size<=16) (h2:∀ i b,s.data[i]? = some b->nameAt i b=true):isName s=true:=by
 unfold isName;simp only[h0,h1,decide_true,Bool.true_and,ac,lB,ne_eq,not_false_eq_true,true_and];intro i hi;split
 ·rename_i b hb;exact h2 i b hb
 ·rfl
def mQ {s:iII} (h:s.size=0\/16<s.size\/∃ i b,s.data[i]? = some b/\nameAt i b=false):isName s=false:=by
 rw[Bool.eq_false_iff];intro hn;unfold isName at hn;simp only[ac,lB,ah] at hn;rcases h with h|h|⟨i,b,hb,hf⟩
 ·exact hn.1.1 h
 ·have:=hn.1.2;omega
 ·have hi:i<s.size:=(Array.getElem?_eq_some_iff.1 hb).1;have:=hn.2 i hi;rw[hb] at this;simp only[hf] at this;cases this
def PA (b:UInt8):nameAt 0 b=jG b.toNat:=by simp[nameAt]
def z8 {s:iII} {k:Nat} {b:UInt8} (h:s.data[k]? = some b) {K:Int->Prop} (hk:K b.toNat):G0 s (k:Int) K:=⟨b,by omega,by rwa[Int.toNat_natCast],hk⟩
def APN {s:iII} {b:UInt8} (h:s.data[0]? = some b) {K:Int->Prop} (hk:K b.toNat):G0 s 0 K:=⟨b,by omega,h,hk⟩
def QI {s:iII}:s = { data:=#[] }↔s.size=0:=⟨λe=>by subst e;rfl,λe=>ByteArray.ext (Array.eq_empty_of_size_eq_zero e)⟩
def ARM {s:iII} {k:Nat} (h:k<s.size):∃ b,s.data[k]? = some b:=⟨s.data[k]'h,by simp⟩
def R0(a0:Int)(R:T->Prop):Prop:=aE (decide (97<=a0)) (aE (decide (a0<=122)) (R d7) (aE (decide (65<=a0)) (R (pPR (decide (a0<=90)))) (R d4))) (aE (decide (65<=a0)) (R (pPR (decide (a0<=90)))) (R d4))
abbrev WC:Sh:=[(false,(Sy.int IntKind.u8))]
def vS:List T->Option T:=gS WC DE
def OW {a0}:vS [T.v (Value.int IntKind.u8 a0)]=DE (a0):=a8 (s:=WC) rfl (a0) rfl
def A2I:lW Tryz.prog 120 vS DE (bR WC) R0:=eN (a1:=(false,(Sy.int IntKind.u8))) (Hs:=c0) (k:=8) (bM _) aV aY (aQ rfl) ⟨_,_,Tryz.func120,rfl⟩ rfl λ_ _=>by kernel_rfl
def A0J:aT Tryz.prog 120 vS:=A2I λn r h hb=>by
 have h':some (Sh.enc D4 (jG n))=some r:=h;cases h';clear h;unfold R0 d7 d4;simp only[IB];by_cases h1:97<=n<;>by_cases h2:n<=122<;>by_cases h3:65<=n<;>by_cases h4:n<=90<;>simp[h1,h2,h3,h4,jG,Sh.enc,aH,Sy.enc,hdT]<;>omega
def ABS(a0:Int)(R:T->Prop):Prop:=aE (decide (48<=a0)) (R (pPR (decide (a0<=57)))) (R d4)
abbrev AE5:Sh:=[(false,(Sy.int IntKind.u8))]
def HO:List T->Option T:=gS AE5 JV
def AQZ {a0}:HO [T.v (Value.int IntKind.u8 a0)]=JV (a0):=a8 (s:=AE5) rfl (a0) rfl
def BCE:lW Tryz.prog 121 HO JV (bR AE5) ABS:=eN (a1:=(false,(Sy.int IntKind.u8))) (Hs:=c0) (k:=8) (bM _) aV aY (aQ rfl) ⟨_,_,Tryz.func121,rfl⟩ rfl λ_ _=>by kernel_rfl
def A8X:aT Tryz.prog 121 HO:=BCE λn r h hb=>by
 have h':some (Sh.enc D4 (qL n))=some r:=h;cases h';clear h;unfold ABS d4;simp only[IB];by_cases h1:48<=n<;>by_cases h2:n<=57<;>simp[h1,h2,qL,Sh.enc,aH,Sy.enc,hdT]
def ANT:Env:=Env.of [(120,.pure vS),(121,.pure HO)]
def APB:FuncId->Hint:=bP 51 [(4,.inv [.val 3 false (.int .i64)])] (λ_=>bH)
def ABK:bB Tryz.prog ANT:=.cons A0J (.cons A8X (.nil _))
def d5:Sh:=[(false,Sy.bool)]
def EX(a0:iII)(R:T->Prop):Prop:=aE (decide (a0 = {data:=#[]})) (R d4) (aE (decide (16<(↑(ByteArray.size a0):Int))) (R d4) (G0 a0 0 λ(y0:Int)=>aJ d5 (vS [T.v (Value.int IntKind.u8 y0)]) λ(y1:Bool)=>aE (!y1) (R d4) (a7 (Int×PUnit) (λX2 s3=>aE (decide (s3.1<(↑(ByteArray.size a0):Int))) (G0 a0 s3.1 λ(y4:Int)=>aJ d5 (vS [T.v (Value.int IntKind.u8 y4)]) λ(y5:Bool)=>aE (!y5) (G0 a0 s3.1 λ(y6:Int)=>aJ d5 (HO [T.v (Value.int IntKind.u8 y6)]) λ(y7:Bool)=>aE (!y7) (G0 a0 s3.1 λ(y8:Int)=>aE (!decide (y8=95)) (G0 a0 s3.1 λ(y9:Int)=>aE (!decide (y9=45)) (R d4) (g9 X2 s3)) (g9 X2 s3)) (g9 X2 s3)) (g9 X2 s3)) (R d7)) (0,()))))
abbrev F0:Sh:=[(false,Sy.str)]
def gY:List T->Option T:=gS F0 qC
def o6 {a0}:gY [pPQ a0]=qC (a0):=a8 (s:=F0) rfl (a0) rfl
def ALW:lW Tryz.prog 51 gY qC (bR F0) EX:=eN (a1:=(false,Sy.str)) (Hs:=APB) (k:=8) ABK aV aY (aQ rfl) ⟨_,_,Tryz.func51,rfl⟩ rfl λ_ _=>by kernel_rfl
def tO:aT Tryz.prog 51 gY:=ALW λs r h hb=>by
 have h':some (Sh.enc D4 (isName s))=some r:=h;cases h';clear h;unfold EX g9 d7 d5 d4;by_cases h0:s.size=0
 ·exact dD (QI.2 h0) (by rw[mQ (.inl h0)];rfl)
 refine eB (λe=>h0 (QI.1 e)) ?_;by_cases h16:16<s.size
 ·exact dD (by omega) (by rw[mQ (.inr (.inl h16))];rfl)
 refine eB (by omega) ?_;obtain ⟨b0,hb0⟩:=ARM (show 0<s.size by omega);refine APN hb0 (aM (s:=D4) (y:=jG b0.toNat) OW ?_);cases hl0:jG b0.toNat with
 | false=>exact (by rw[mQ (.inr (.inr ⟨0,b0,hb0,by rw[PA];exact hl0⟩))];rfl)
 | true =>
  rw[Bool.not_true,hU];refine bJ s.size (λk t=>t=((k:Int),())/\∀ i b,i<k->s.data[i]? = some b->nameAt i b=true) ⟨rfl,by simp⟩ ?_;rintro X k t hk ⟨rfl,hno⟩ hX;dsimp only;by_cases hlt:k<s.size
  ·refine dD (by omega) ?_;obtain ⟨b,hb⟩:=ARM hlt;have hw:i64.wrap ((k:Int)+1)=((k+1:Nat):Int):=aZ _ (by omega) (by omega);have go:nameAt k b=true->X (i64.wrap ((k:Int)+1),()):=λhn=>hX _ hlt ⟨by rw[hw],λi b' hi hb'=>by
    by_cases e:i=k
    ·subst e;rw[hb] at hb';cases hb';exact hn
    ·exact hno i b' (by omega) hb'⟩
   have hzero:jG b.toNat=false->k≠0:=λhf e=>by subst e;rw[hb] at hb0;cases hb0;rw[hf] at hl0;cases hl0
   have stop:nameAt k b=false->pPR false=Sh.enc D4 (isName s):=λhn=>by rw[mQ (.inr (.inr ⟨k,b,hb,hn⟩))];rfl
   refine z8 hb (aM (s:=D4) (y:=jG b.toNat) OW ?_);cases hl:jG b.toNat with
   | true=>rw[Bool.not_true,hU];exact go (by simp[nameAt,hl])
   | false =>
    have hk0:=hzero hl;rw[Bool.not_false,fL];refine z8 hb (aM (s:=D4) (y:=qL b.toNat) AQZ ?_);cases hd:qL b.toNat with
    | true=>rw[Bool.not_true,hU];exact go (by simp[nameAt,hl,hk0,hd])
    | false =>
     rw[Bool.not_false,fL];refine z8 hb ?_;by_cases h95:(b.toNat:Int)=95
     ·exact L9 h95 (go (by simp[nameAt,hl,hk0,hd,h95]))
     ·refine U4 h95 (z8 hb ?_);by_cases h45:(b.toNat:Int)=45
      ·exact L9 h45 (go (by simp[nameAt,hl,hk0,hd,h45]))
      ·exact U4 h45 (stop (by
        unfold nameAt;rw[hl,hd,aj h95,aj h45];simp))
  ·refine eB (by omega) ?_;rw[ZZ h0 (by omega) (λi b h=>hno i b (by have:=(Array.getElem?_eq_some_iff.1 h).1;have:i<s.size:=this;omega) h)];rfl
def A60:FuncId->Hint:=λf=>match f == 40 with|true=>⟨λr=>match r == 4 with|true=>.inv [.mL 0]|false=>.none,λi j=>match i == 6&&j == 6 with|true=>some [.val 5 false .bool,.fix 0]|false=>match i == 7&&j == 7 with|true=>some [.val 6 false .bool,.fix 0]|false=>none,λ_=>none⟩|false=>bH
def EQ(s1:(iII×Nat)×PUnit)(X2:Bool×PUnit×PUnit->Prop):Prop:=aE (decide (97<=(↑(Utf8.decode s1.1.1 s1.1.2).1:Int))) (eZ (bL.mL s1.1.1 (s1.1.2+(Utf8.decode s1.1.1 s1.1.2).2)) (bL.mL s1.1.1 (s1.1.2+(Utf8.decode s1.1.1 s1.1.2).2)) (X2 (decide ((↑(Utf8.decode s1.1.1 s1.1.2).1:Int)<=122),(),()))) (eZ (bL.mL s1.1.1 (s1.1.2+(Utf8.decode s1.1.1 s1.1.2).2)) (bL.mL s1.1.1 (s1.1.2+(Utf8.decode s1.1.1 s1.1.2).2)) (X2 (false,(),())))
def FS(s1:(iII×Nat)×PUnit)(X2:Bool×PUnit×PUnit->Prop):Prop:=eZ (bL.mL s1.1.1 (s1.1.2+(Utf8.decode s1.1.1 s1.1.2).2)) (bL.mL s1.1.1 (s1.1.2+(Utf8.decode s1.1.1 s1.1.2).2)) (X2 (true,(),()))
def NE(s1:(iII×Nat)×PUnit)(X4:Bool×PUnit×PUnit->Prop):Prop:=aE (decide ((↑(Utf8.decode s1.1.1 s1.1.2).1:Int)=95)) (FS s1 X4) (eZ (bL.mL s1.1.1 (s1.1.2+(Utf8.decode s1.1.1 s1.1.2).2)) (bL.mL s1.1.1 (s1.1.2+(Utf8.decode s1.1.1 s1.1.2).2)) (X4 (decide ((↑(Utf8.decode s1.1.1 s1.1.2).1:Int)=45),(),())))
def RZ(a0:iII)(R:T->Prop):Prop:=aE (decide (a0 = {data:=#[]})) (R d4) (aE (decide (16<(↑(ByteArray.size a0):Int))) (R d4) (a7 ((iII×Nat)×PUnit) (λX0 s1=>aE (decide (s1.1.2<s1.1.1.size)) (tW (Bool×PUnit×PUnit) (λ(X2:Bool×PUnit×PUnit->Prop)=>aE (decide (65<=(↑(Utf8.decode s1.1.1 s1.1.2).1:Int))) (aE (decide ((↑(Utf8.decode s1.1.1 s1.1.2).1:Int)<=90)) (FS s1 X2) (EQ s1 X2)) (EQ s1 X2)) λ(s3:Bool×PUnit×PUnit)=>tW (Bool×PUnit×PUnit) (λ(X4:Bool×PUnit×PUnit->Prop)=>aE (decide (48<=(↑(Utf8.decode s1.1.1 s1.1.2).1:Int))) (aE (decide ((↑(Utf8.decode s1.1.1 s1.1.2).1:Int)<=57)) (FS s1 X4) (NE s1 X4)) (NE s1 X4)) λ(s5:Bool×PUnit×PUnit)=>aE (!s3.1) (aE (decide ((↑s1.1.2:Int)=0)) (R d4) (aE (!s5.1) (R d4) (X0 ((s1.1.1,s1.1.2+(Utf8.decode s1.1.1 s1.1.2).2),())))) (X0 ((s1.1.1,s1.1.2+(Utf8.decode s1.1.1 s1.1.2).2),()))) (R d7)) ((a0,0),())))
abbrev WA:Sh:=[(false,Sy.str)]
abbrev JL:Sh:=[(false,Sy.bool)]
def YR (y:Sh.den JL) (K:Sh.den JL->Prop):aJ JL (some (Sh.enc JL y)) K=K y:=oL rfl y K
def jK:List T->Option T:=gS WA w3
def AV {a0}:jK [pPQ a0]=w3 (a0):=a8 (s:=WA) rfl (a0) rfl
def A2G:lW Tryz.prog 40 jK w3 (bR WA) RZ:=eN (a1:=(false,Sy.str)) (Hs:=A60) (k:=8) (bM _) aV aY (aQ rfl) ⟨_,_,Tryz.func40,rfl⟩ rfl λ_ _=>by kernel_rfl
variable {K:Bool×PUnit×PUnit->Prop}
def ALD (c:Int) (hX:K (jG c,(),())):tW (Bool×PUnit×PUnit) (λX=>aE (decide (65<=c)) (aE (decide (c<=90)) (X (true,(),())) (aE (decide (97<=c)) (X (decide (c<=122),(),())) (X (false,(),())))) (aE (decide (97<=c)) (X (decide (c<=122),(),())) (X (false,(),())))) K:=by
 simp only[IB,C0];unfold jG at hX;by_cases h1:65<=c<;>by_cases h2:c<=90<;>by_cases h3:97<=c<;>by_cases h4:c<=122<;>simp[h1,h2,h3,h4] at hX ⊢ <;> first|exact hX|omega
def AC9 (c:Int) (hX:K (qL c||decide (c=95)||decide (c=45),(),())):tW (Bool×PUnit×PUnit) (λX=>aE (decide (48<=c)) (aE (decide (c<=57)) (X (true,(),())) (aE (decide (c=95)) (X (true,(),())) (X (decide (c=45),(),())))) (aE (decide (c=95)) (X (true,(),())) (X (decide (c=45),(),())))) K:=by
 simp only[IB,C0];unfold qL at hX;by_cases h1:48<=c<;>by_cases h2:c<=57<;>by_cases h3:c=95<;>simp[h1,h2,h3] at hX ⊢ <;> first|exact hX|omega
def CU:aT Tryz.prog 40 jK:=A2G λs r h hb=>by
 have h':some (Sh.enc D4 (isName s))=some r:=h;cases h';clear h;unfold RZ NE FS EQ d7 d4;by_cases h0:s.size=0
 ·exact dD (QI.2 h0) (by rw[mQ (.inl h0)];rfl)
 refine eB (λe=>h0 (QI.1 e)) ?_;by_cases h16:16<s.size
 ·exact dD (by omega) (by rw[mQ (.inr (.inl h16))];rfl)
 refine eB (by omega) ?_;refine bJ s.size (λk t=>t=((s,k),())/\∀ i b,i<k->s.data[i]? = some b->nameAt i b=true) ⟨rfl,by simp⟩ ?_;rintro X k t hk ⟨rfl,hno⟩ hX;simp only[cI];by_cases hlt:k<s.size
 ·refine dD hlt ?_;have hb:s.data[k]? = some (s[k]'hlt):=by
   rw[Array.getElem?_eq_getElem hlt];rfl
  refine ALD (Utf8.decode s k).1 ?_;refine AC9 (Utf8.decode s k).1 ?_;dsimp only;have stop:nameAt k (s[k]'hlt)=false->pPR false=Sh.enc D4 (isName s):=λhn=>by rw[mQ (.inr (.inr ⟨k,_,hb,hn⟩))];rfl
  by_cases hasc:(s[k]'hlt).toNat<128
  ·have hd:=decode_ascii s k hlt hasc;have go:nameAt k (s[k]'hlt)=true->X ((s,k+(Utf8.decode s k).2),()):=λhn=>by
    rw[hd];exact hX _ hlt ⟨rfl,λi b' hi hb'=>by
     by_cases e:i=k
     ·subst e;rw[hb] at hb';cases hb';exact hn
     ·exact hno i b' (by omega) hb'⟩
   have e1:((Utf8.decode s k).1:Int)=((s[k]'hlt).toNat:Int):=by rw[hd]
   rw[e1];cases hl:jG ((s[k]'hlt).toNat:Int) with
   | true=>rw[Bool.not_true,hU];exact go (by simp[nameAt,hl])
   | false =>
    rw[Bool.not_false,fL];by_cases hk0:k=0
    ·exact dD (by omega) (stop (by subst hk0;rw[PA];exact hl))
    ·refine eB (by omega) ?_;cases hf:(qL ((s[k]'hlt).toNat:Int)||decide (((s[k]'hlt).toNat:Int)=95)||decide (((s[k]'hlt).toNat:Int)=45)) with
     | true=>rw[Bool.not_true,hU];exact go (by unfold nameAt;rw[hl,hf];simp[hk0])
     | false=>rw[Bool.not_false,fL];exact stop (by unfold nameAt;rw[hl,hf];simp)
  ·obtain ⟨hd1,hd2⟩:=decode_high s k hlt (by omega);have hl:jG ((Utf8.decode s k).1:Int)=false:=by
    unfold jG;simp;omega
   have hf:(qL ((Utf8.decode s k).1:Int)||decide (((Utf8.decode s k).1:Int)=95)||decide (((Utf8.decode s k).1:Int)=45))=false:=by
    unfold qL;simp;omega
   have hn:nameAt k (s[k]'hlt)=false:=by
    unfold nameAt jG qL;simp;omega
   rw[hl,hf,Bool.not_false,fL];by_cases hk0:k=0
   ·exact dD (by omega) (stop hn)
   ·refine eB (by omega) ?_;rw[fL];exact stop hn
 ·refine eB hlt ?_;rw[ZZ h0 (by omega) (λi b h=>hno i b (by have:=(Array.getElem?_eq_some_iff.1 h).1;have:i<s.size:=this;omega) h)];rfl
def BG6:FuncId->Hint:=bP 122 [(4,.inv [.own 3 1 .str,.val 4 false (.int .i64),.val 5 false (.int .i64)])] (λ_=>bH)
def tF(s1:List iII×Int×Int×PUnit)(a0:iII)(X0:List iII×Int×Int×PUnit->Prop):Prop:=bO (decide (0<=s1.2.2.1)&&decide (Int.toNat s1.2.2.1<=ByteArray.size a0) && (decide (0<=s1.2.1)&&decide (Int.toNat s1.2.1<=Int.toNat s1.2.2.1))) (bO (decide (((List.map Sy.str.enc s1.1).length+1)*16<=140737488355328) && decide ((List.map Sy.str.enc s1.1).length+1<=140737488355328)) (cD Sy.str (List.map Sy.str.enc s1.1 ++ [[pPQ (ByteArray.extract a0 (Int.toNat s1.2.1) (Int.toNat s1.2.2.1))]]) λ(y2:List iII)=>X0 (y2,i64.wrap (s1.2.2.1+1),i64.wrap (s1.2.2.1+1),())))
def AB3(a0:iII)(R:T->Prop):Prop:=a7 (List iII×Int×Int×PUnit) (λX0 s1=>aE (decide (s1.2.2.1<=(↑(ByteArray.size a0):Int))) (aE (decide (s1.2.2.1=(↑(ByteArray.size a0):Int))) (tF s1 a0 X0) (G0 a0 s1.2.2.1 λ(y3:Int)=>aE (decide (y3=46)) (tF s1 a0 X0) (cD Sy.str (List.map Sy.str.enc s1.1) λ(y5:List iII)=>X0 (y5,s1.2.1,i64.wrap (s1.2.2.1+1),())))) (R (T.sl false (List.map Sy.str.enc s1.1)))) ([],0,0,())
abbrev AFH:Sh:=[(false,Sy.str)]
def HZ:List T->Option T:=gS AFH w7
def ARA {a0}:HZ [pPQ a0]=w7 (a0):=a8 (s:=AFH) rfl (a0) rfl
def BCS:lW Tryz.prog 122 HZ w7 (bR AFH) AB3:=eN (a1:=(false,Sy.str)) (Hs:=BG6) (k:=8) (bM _) aV aY (aQ rfl) ⟨_,_,Tryz.func122,rfl⟩ rfl λ_ _=>by kernel_rfl
def HB (s:iII) (f k:Nat):(s.extract f k).data.toList=(s.data.toList.drop f).take (k-f):=by
 rw[ByteArray.data_extract,Array.toList_extract,List.extract_eq_take_drop]
def A8P {s:iII} {f k:Nat} {b:UInt8} (h1:f<=k) (h:s.data[k]? = some b):(s.extract f (k+1)).data.toList=(s.extract f k).data.toList++[b]:=by
 rw[HB,HB];have e:k+1-f=(k-f)+1:=by omega
 rw[e,List.take_add_one]
 congr 1
 rw[List.getElem?_drop,show f+(k-f)=k by omega,Array.getElem?_toList,h];rfl
def A8D {s:iII} {k:Nat} {b:UInt8} (h:s.data[k]? = some b):s.data.toList.drop k=b::s.data.toList.drop (k+1):=by
 obtain ⟨hk,e⟩:=Array.getElem?_eq_some_iff.1 h;rw[List.drop_eq_getElem_cons (by simpa using hk),Array.getElem_toList,e]
def A87:aT Tryz.prog 122 HZ:=BCS λs r h hb=>by
 unfold w7 at h;split at h
 ·rename_i hsz;have hsz:s.size<=1099511627776:=of_decide_eq_true hsz;cases h;unfold AB3 tF;refine bJ (s.size+1) (λk t=>∃ (out:List iII) (f:Nat),t=(out,(f:Int),(k:Int),())/\out.length<=k/\((k<=s.size/\f<=k/\out.map (·.data.toList)++YS (s.extract f k).data.toList (s.data.toList.drop k)=XK s.data.toList)\/(k=s.size+1/\out=dZ s)))
   ⟨[],0,rfl,by simp,.inl ⟨by omega,by omega,by rw[HB];simp[AM2]⟩⟩ ?_
  rintro X k t hk ⟨out,f,rfl,hol,hJ⟩ hX;dsimp only;have hreq:f<=k->k<=s.size->∀ K:Prop,K->bO (decide (0<=(k:Int))&&decide (Int.toNat (k:Int)<=ByteArray.size s)&&(decide (0<=(f:Int))&&decide (Int.toNat (f:Int)<=Int.toNat (k:Int)))) K:=λh1 h2 K hK=>⟨by simp;omega,hK⟩
  have happ:∀ K:Prop,K->bO (decide (((List.map Sy.str.enc out).length+1)*16<=140737488355328)&&decide ((List.map Sy.str.enc out).length+1<=140737488355328)) K:=λK hK=>⟨by simp only[ae,ac,ah];omega,hK⟩
  have hdec:∀ (x:iII) (K:List iII->Prop),K (out++[x])->cD Sy.str (List.map Sy.str.enc out++[[pPQ x]]) K:=λx K hK=>by
   rw[vC (r:=.str) rfl out _ x rfl];exact hK
  rcases hJ with ⟨hks,hfk,he⟩|⟨rfl,rfl⟩
  ·have hw:i64.wrap ((k:Int)+1)=((k+1:Nat):Int):=aZ _ (by omega) (by omega);refine dD (by omega) ?_;by_cases hend:k=s.size
   ·subst hend;refine dD rfl (hreq hfk hks _ (happ _ (hdec _ _ ?_)));refine hX _ (by omega) ⟨out++[s.extract f s.size],s.size+1,by rw[hw];simp,by simp;omega,.inr ⟨rfl,parts_eq ?_⟩⟩;rw[List.drop_eq_nil_of_le (by rw[Array.length_toList];exact al _),BE4] at he;rw[<-he];simp
   ·refine eB (by omega) ?_;obtain ⟨b,hb⟩:=ARM (show k<s.size by omega);refine z8 hb ?_;rw[A8D hb] at he;by_cases h46:(b.toNat:Int)=46
    ·refine dD h46 (hreq hfk hks _ (happ _ (hdec _ _ ?_)));have hb46:b=46:=by
      apply UInt8.toNat_inj.1;have:(46:UInt8).toNat=46:=rfl;omega
     subst hb46;rw[BE3] at he;refine hX _ (by omega) ⟨out++[s.extract f k],k+1,by rw[hw];simp,by simp;omega,.inl ⟨by omega,by omega,?_⟩⟩;rw[<-he,HB s (k+1) (k+1)];simp[AM2]
    ·refine eB h46 ?_;rw[dJ (r:=.str) rfl];have hb46:b≠46:=λe=>h46 (by subst e;rfl);rw[A3V _ _ hb46,<-A8P hfk hb] at he;exact hX _ (by omega) ⟨out,f,by rw[hw],by omega,.inl ⟨by omega,by omega,he⟩⟩
  ·exact eB (by omega) rfl
 ·cases h
def BF2:Env:=Env.of [(40,.pure jK)]
def BG3:FuncId->Hint:=bP 256 [(3,.inv [.val 3 false (.int .i64),.val 11 false (.int .i64)])] (λ_=>bH)
def AYB:bB Tryz.prog BF2:=.cons CU (.nil _)
def ABY(a0:List iII)(R:T->Prop):Prop:=a7 (Int×Int×PUnit) (λX0 s1=>aE (decide (s1.2.1<(↑(GT a0).length:Int))) (aU Sy.str (GT a0) s1.2.1 λ(y2:iII)=>aJ d5 (jK [pPQ y2]) λ(y3:Bool)=>aE (!y3) (R d4) (X0 (i64.wrap (s1.1+(↑y2.size:Int)),i64.wrap (s1.2.1+1),()))) (aE (decide (1<=(↑(GT a0).length:Int))) (aE (decide ((↑(GT a0).length:Int)<=8)) (R (pPR (decide (s1.1<=64)))) (R d4)) (R d4))) (i64.wrap ((↑(GT a0).length:Int)-1),0,())
abbrev AFD:Sh:=[(false,Sy.str.li)]
def HW:List T->Option T:=gS AFD w5
def AQ7 {a0}:HW [T.sl false (List.map Sy.str.enc a0)]=w5 (a0):=a8 (s:=AFD) rfl (a0) rfl
def BCN:lW Tryz.prog 256 HW w5 (bR AFD) ABY:=eN (a1:=(false,Sy.str.li)) (Hs:=BG3) (k:=8) AYB aV aY (aQ rfl) ⟨_,_,Tryz.func256,rfl⟩ rfl λ_ _=>by kernel_rfl
def GA:∀ (l:List iII) (x:iII),qG (l++[x])=qG l+x.size
 | [],x=>by simp[qG]
 | a::l,x=>by simp only[List.cons_append,qG,GA l x];omega
def XO:∀ (l:List iII) (k:Nat),qG (l.take k)<=qG l
 | [],k=>by simp
 | a::l,0=>by simp[qG]
 | a::l,k+1=>by simp only[List.take_succ_cons,qG];have:=XO l k;omega
def A85:aT Tryz.prog 256 HW:=BCN λl r h hb=>by
 unfold w5 at h;split at h
 ·rename_i hsz;simp only[ac,ah] at hsz;obtain ⟨hl65,hs64⟩:=hsz;cases h;unfold ABY GT d5 d4;refine bJ l.length (λk t=>t=((l.length:Int)-1+qG (l.take k),(k:Int),())/\(l.take k).all isName=true) ⟨by
   simp only[List.take_zero,qG,ae,Prod.mk.injEq,and_true];rw[aZ _ (by omega) (by omega)];simp,by simp⟩ ?_
  rintro X k t hk ⟨rfl,hall⟩ hX;dsimp only;by_cases hlt:k<l.length
  ·refine dD (by simp[hlt]) ?_;rw[bA (r:=.str) hlt];refine aM (s:=D4) (y:=isName l[k]) AV ?_;have hsum:=XO l (k+1);have htake:l.take (k+1)=l.take k++[l[k]]:=List.take_succ_eq_append_getElem hlt;cases hn:isName l[k] with
   | false =>
    rw[Bool.not_false,fL];have:l.all isName=false:=by
     rw[Bool.eq_false_iff];intro ha;have:=List.all_eq_true.1 ha _ (ak hlt);rw[hn] at this;cases this
    rw[this];rfl
   | true =>
    rw[Bool.not_true,hU];rw[htake,GA] at hsum;refine hX _ hlt ⟨?_,by rw[htake,List.all_append,hall];simp[hn]⟩;rw[htake,GA];simp only[Prod.mk.injEq,and_true];exact ⟨by rw[aZ _ (by omega) (by omega)];simp;omega,aZ _ (by omega) (by omega)⟩
  ·have:k=l.length:=by omega
   subst this;rw[List.take_length] at hall;refine eB (by simp) ?_;rw[List.take_length,hall];by_cases h1:1<=l.length
   ·refine dD (by simp only[ae];omega) ?_;by_cases h2:l.length<=8
    ·refine dD (by simp only[ae];omega) ?_;rw[ai h1,ai h2];rfl
    ·refine eB (by simp only[ae];omega) ?_;rw[aj h2,Bool.and_false];rfl
   ·refine eB (by simp only[ae];omega) ?_;rw[aj h1];rfl
 ·cases h
def BL1:Env:=Env.of [(257,.pure BF),(256,.pure HW)]
def A44:bB Tryz.prog BL1:=.cons A0Z (.cons A85 (.nil _))
def f6:Sh:=[(false,Sy.str.li)]
def AOZ(a0:iII)(R:T->Prop):Prop:=aE (decide ((↑(ByteArray.size a0):Int)<=64)) (aJ f6 (BF [pPQ a0,pPQ ({data:=#[46]})]) λ(y0:List iII)=>aJ d5 (HW [T.sl false (GT y0)]) λ(y1:Bool)=>R (pPR y1)) (R d4)
abbrev AS9:Sh:=[(false,Sy.str)]
abbrev AET:Sh:=[(false,Sy.bool)]
def AMG (y:Sh.den AET) (K:Sh.den AET->Prop):aJ AET (some (Sh.enc AET y)) K=K y:=oL rfl y K
def fP:List T->Option T:=gS AS9 J0
def A1E {a0}:fP [pPQ a0]=J0 (a0):=a8 (s:=AS9) rfl (a0) rfl
def BJI:lW Tryz.prog 112 fP J0 (bR AS9) AOZ:=eN (a1:=(false,Sy.str)) (Hs:=c0) (k:=8) A44 aV aY (aQ rfl) ⟨_,_,Tryz.func112,rfl⟩ rfl λ_ _=>by kernel_rfl
def QL:aT Tryz.prog 112 fP:=BJI λs r h hb=>by
 have h':some (Sh.enc D4 (kH s))=some r:=h;cases h';clear h;unfold AOZ GT f6 d5 d4 kH;by_cases h64:s.size<=64
 ·refine dD (by omega) ?_;have hsum:=AAL s;have hpos:=A3J s;refine aM (s:=BJZ) (y:=dZ s) ?_ ?_
  ·rw[show BF [pPQ s,pPQ ({ data:=#[46] })]=CC (s,dot) from AK4];unfold CC;rw[show decide (s.size<4294967281)=true by simp;omega,show decide (1<=dot.size)=true from rfl];rfl
  ·refine aM (s:=D4) (y:=(dZ s).all isName&&(decide (1<=(dZ s).length)&&decide ((dZ s).length<=8)&&decide (BKC (dZ s)<=64))) ?_ ?_
   ·rw[AQ7];unfold w5;rw[show (decide ((dZ s).length<=65)&&decide (qG (dZ s)<=64))=true by simp;omega]
   ·have h1:decide (1<=(dZ s).length)=true:=ai hpos;have h2:decide (BKC (dZ s)<=64)=true:=ai (by unfold BKC;omega);have h3:decide (s.size<=64)=true:=ai h64;rw[h1,h2,h3];simp[Bool.and_comm,Sh.enc,aH,Sy.enc,hdT]
 ·refine eB (by omega) ?_;rw[aj h64];rfl
def A4G:Env:=Env.of [(122,.pure HZ),(51,.pure gY)]
def A6Z:FuncId->Hint:=bP 58 [(5,.inv [.val 4 false (.int .i64)])] (λ_=>bH)
def AN7:bB Tryz.prog A4G:=.cons A87 (.cons tO (.nil _))
def RY(a0:iII)(R:T->Prop):Prop:=aJ f6 (HZ [pPQ a0]) λ(y0:List iII)=>aE (decide (64<(↑(ByteArray.size a0):Int))) (R d4) (aE (decide (8<(↑(GT y0).length:Int))) (R d4) (a7 (Int×PUnit) (λX1 s2=>aE (decide (s2.1<(↑(GT y0).length:Int))) (aU Sy.str (GT y0) s2.1 λ(y3:iII)=>aJ d5 (gY [pPQ y3]) λ(y4:Bool)=>aE (!y4) (R d4) (g9 X1 s2)) (R d7)) (0,())))
abbrev V9:Sh:=[(false,Sy.str)]
def gG:List T->Option T:=gS V9 nE
def AU {a0}:gG [pPQ a0]=nE (a0):=a8 (s:=V9) rfl (a0) rfl
def A2F:lW Tryz.prog 58 gG nE (bR V9) RY:=eN (a1:=(false,Sy.str)) (Hs:=A6Z) (k:=8) AN7 aV aY (aQ rfl) ⟨_,_,Tryz.func58,rfl⟩ rfl λ_ _=>by kernel_rfl
def CT:aT Tryz.prog 58 gG:=A2F λs r h hb=>by
 unfold nE at h;split at h
 ·rename_i hsz;have h300:s.size<=1099511627776:=of_decide_eq_true hsz;cases h;unfold RY GT g9 f6 d7 d5 d4 kH;have hsum:=AAL s;refine aM (s:=BJZ) (y:=dZ s) (by rw[ARA];unfold w7;rw[hsz]) ?_;generalize dZ s=l at *;by_cases h64:64<s.size
  ·refine dD (by omega) ?_;rw[aj (show ¬ s.size<=64 by omega)];rfl
  ·refine eB (by omega) ?_;rw[ai (show s.size<=64 by omega)];by_cases h8:8<l.length
   ·refine dD (by simp only[ae];omega) ?_;rw[aj (show ¬ l.length<=8 by omega)];rfl
   ·refine eB (by simp only[ae];omega) ?_;rw[ai (show l.length<=8 by omega)];refine bJ l.length (λk t=>t=((k:Int),())/\(l.take k).all isName=true) ⟨rfl,by simp⟩ ?_;rintro X k t hk ⟨rfl,hall⟩ hX;dsimp only;by_cases hlt:k<l.length
    ·refine dD (by simp[hlt]) ?_;rw[bA (r:=.str) hlt];refine aM (s:=D4) (y:=isName l[k]) o6 ?_;cases hn:isName l[k] with
     | false =>
      rw[Bool.not_false,fL];have:l.all isName=false:=by
       rw[Bool.eq_false_iff];intro ha;have:=List.all_eq_true.1 ha _ (ak hlt);rw[hn] at this;cases this
      rw[this];rfl
     | true =>
      rw[Bool.not_true,hU];exact hX _ hlt ⟨by rw[show i64.wrap ((k:Int)+1)=((k+1:Nat):Int) from aZ _ (by omega) (by omega)],by rw[List.take_succ_eq_append_getElem hlt,List.all_append,hall];simp[hn]⟩
    ·have:k=l.length:=by omega
     subst this;rw[List.take_length] at hall;refine eB (by simp) ?_;rw[hall];rfl
 ·cases h
end Go.Pv
namespace Go.Pv
open Go Go.Proofs IntKind
def Seen (es:List (iII×Bool)) (S:iII->Prop):Prop:=(∀ id b,kG es id=some b->b=true)/\∀ id,kG es id=some true↔S id
def Seen.nil:Seen [] λ_=>False:=⟨λid b h=>(by cases h),λid=>⟨λh=>(by cases h),λh=>h.elim⟩⟩
variable {es:List (iII×Bool)}{S:iII->Prop}
def Seen.ins (h:Seen es S) (k:iII):Seen (zR es k true) λid=>S id\/k=id:=by
 refine ⟨λid b hb=>?_,λid=>?_⟩
 ·rw[BH] at hb;split at hb
  ·cases hb;rfl
  ·exact h.1 id b hb
 ·rw[BH];split
  ·rename_i e;exact ⟨λ_=>.inr e,λ_=>rfl⟩
  ·rename_i e;rw[h.2];exact ⟨.inl,λh=>h.resolve_right e⟩
def Seen.congr {S':iII->Prop} (h:Seen es S) (e:∀ id,S id↔S' id):Seen es S':=⟨h.1,λid=>(h.2 id).trans (e id)⟩
abbrev RS:=List (Value×T)×Nat×List Nat×Nat
variable {m:List (iII×Int)}
def A8I {seen:List Nat} {i:Nat} (hi:i<m.length) (K:iII->Int->Prop) (hk:K m[i].1 m[i].2):PR .str false (.int .i64) (s0 (bQ m)) (seen++[i]) K :=
 ⟨i,m[i].1,m[i].2,by simp,by simp only[s0,bQ,List.map_map,List.getElem?_map,List.getElem?_eq_getElem hi];rfl,hk⟩
def BHM {R7 K:Prop} (hS:Seen es S) (hbad:(∃ i,∃ h:i<m.length,S m[i].1)->R7) (hgood:(∀ i (h:i<m.length),¬ S m[i].1)->K) :
  a7 (RS×PUnit) (λ(X:RS×PUnit->Prop) (s:RS×PUnit)=>bO (decide (s.1.1.length<=s.1.2.1)&&decide (s.1.2.1<=s.1.2.2.2)) (AI s.1.1.length s.1.2.2.1 K λ(i:Nat) =>
   bO (decide (s.1.1.length=s.1.1.length)) (PR Sy.str false (Sy.int IntKind.i64) (s0 s.1.1) (s.1.2.2.1++[i]) λ(k:iII) (y:Int) =>
    jC TypeDesc.string (Value.string k) (List.map (dC Sy.str false Sy.bool) es) false Sy.bool (X ((s.1.1,s.1.2.1,s.1.2.2.1++[i],s.1.1.length),())) λ(j:Nat) (b:Bool) =>
     aE b R7 (X ((s.1.1,s.1.2.1,s.1.2.2.1++[i],s.1.1.length),()))))) ((bQ m,(bQ m).length,[],(bQ m).length),()):=by
 have hml:(bQ m).length=m.length:=by simp[bQ]
 refine bJ m.length (λk t=>∃ seen,t=((bQ m,(bQ m).length,seen,(bQ m).length),())/\(eC m.length seen).length+k<=m.length/\∀ i (h:i<m.length),i∈seen->¬ S m[i].1) ⟨[],rfl,by rw[O9];omega,by simp⟩ ?_;rintro X k t hk ⟨seen,rfl,hlen,hJ⟩ hX;dsimp only;refine ⟨by simp,?_,?_⟩
 ·intro hm;rw[hml] at hm;refine hgood λi hi=>hJ i hi ?_;refine Classical.byContradiction λhc=>?_;have:i∈eC m.length seen:=uA.2 ⟨hi,hc⟩;rw[hm] at this;cases this
 ·intro i hi;rw[hml] at hi;have hi1:=(uA.1 hi).1;have hst:=JA hi;refine ⟨by simp,A8I hi1 _ ?_⟩;have go:¬ S m[i].1->X ((bQ m,(bQ m).length,seen++[i],(bQ m).length),()):=λhn=>hX _ (by omega) ⟨_,rfl,by omega,λj hj hm=>by
   rcases List.mem_append.1 hm with h|h
   ·exact hJ j hj h
   ·simp at h;subst h;exact hn⟩
  refine HC (r:=.bool) (λhno=>go λh=>?_) λj b hb=>?_
  ·have:=(hS.2 m[i].1).2 h;rw[hno] at this;cases this
  ·have:=hS.1 _ _ hb;subst this;rw[fL];exact hbad ⟨i,hi1,(hS.2 _).1 hb⟩
def BHG {K:List (iII×Bool)×RS×PUnit->Prop} (hS:Seen es S) (hgood:∀ es' rs,Seen es' (λid=>S id\/∃ i,∃ h:i<m.length,m[i].1=id)->K (es',rs,())) :
  fA Sy.str false Sy.bool (List.map (dC Sy.str false Sy.bool) es) λ(y:List (iII×Bool)) =>
  a7 (List (iII×Bool)×RS×PUnit) (λ(X:List (iII×Bool)×RS×PUnit->Prop) (s:List (iII×Bool)×RS×PUnit)=>bO (decide (s.2.1.1.length<=s.2.1.2.1)&&decide (s.2.1.2.1<=s.2.1.2.2.2)) (AI s.2.1.1.length s.2.1.2.2.1 (K s) λ(i:Nat) =>
   bO (decide (s.2.1.1.length=s.2.1.1.length)) (PR Sy.str false (Sy.int IntKind.i64) (s0 s.2.1.1) (s.2.1.2.2.1++[i]) λ(k:iII) (y:Int) =>
    qQ (Option (Nat×D)) (findD TypeDesc.string (AED Sy.str k) (List.map (dC Sy.str false Sy.bool) s.1) 0) λ(y37:Option (Nat×D)) =>
     fA Sy.str false Sy.bool (gB (List.map (dC Sy.str false Sy.bool) s.1) y37 (Value.string k) (D.p (T.v (.bool true)))) λ(y38:List (iII×Bool)) =>
      X (y38,(s.2.1.1,s.2.1.2.1,s.2.1.2.2.1++[i],s.2.1.1.length),())))) (y,(bQ m,(bQ m).length,[],(bQ m).length),()):=by
 have hml:(bQ m).length=m.length:=by simp[bQ]
 refine pK (r:=.bool) rfl es _ ?_;refine bJ m.length (λk t=>∃ seen es',t=(es',(bQ m,(bQ m).length,seen,(bQ m).length),())/\(eC m.length seen).length+k<=m.length/\Seen es' (λid=>S id\/∃ i,∃ h:i<m.length,i∈seen/\m[i].1=id)) ⟨[],es,rfl,by rw[O9];omega,hS.congr (by simp)⟩ ?_;rintro X k t hk ⟨seen,es',rfl,hlen,hJ⟩ hX;dsimp only;refine ⟨by simp,?_,?_⟩
 ·intro hm;rw[hml] at hm;refine hgood _ _ (hJ.congr λid=>⟨λh=>h.imp_right λ⟨i,hi,_,e⟩=>⟨i,hi,e⟩,λh=>h.imp_right λ⟨i,hi,e⟩=>⟨i,hi,?_,e⟩⟩);refine Classical.byContradiction λhc=>?_;have:i∈eC m.length seen:=uA.2 ⟨hi,hc⟩;rw[hm] at this;cases this
 ·intro i hi;rw[hml] at hi;have hi1:=(uA.1 hi).1;have hst:=JA hi;refine ⟨by simp,A8I hi1 _ ?_⟩;refine BBG (r:=.bool) rfl (es:=es') (k:=m[i].1) (v:=true) (hX _ (by omega) ⟨seen++[i],_,rfl,by omega,(hJ.ins _).congr λid=>⟨?_,?_⟩⟩)
  ·rintro ((h|⟨j,hj,hm,e⟩)|h)
   ·exact .inl h
   ·exact .inr ⟨j,hj,by simp[hm],e⟩
   ·exact .inr ⟨i,hi1,by simp,h⟩
  ·rintro (h|⟨j,hj,hm,e⟩)
   ·exact .inl (.inl h)
   ·rcases List.mem_append.1 hm with hm|hm
    ·exact .inl (.inr ⟨j,hj,hm,e⟩)
    ·simp at hm;subst hm;exact .inr e
def ltN (a b:cP):Bool:=decide (a.1<b.1)||(decide (a.1=b.1)&&(cK a.2.1 b.2.1||(decide (a.2.1=b.2.1)&&cK a.2.2 b.2.2)))
def ACO:List cP->Bool
 | a::b::l=>ltN a b&&ACO (b::l)
 | _=>true
def Y3 {l:List cP} {k:Nat} (h:k+1<l.length):ACO (l.drop k)=(ltN l[k] l[k+1]&&ACO (l.drop (k+1))):=by
 rw[List.drop_eq_getElem_cons (show k<l.length by omega),List.drop_eq_getElem_cons h,ACO]
def AIA {l:List cP} {k:Nat} (h:l.length<=k+1):ACO (l.drop k)=true:=by
 rcases Nat.lt_or_ge k l.length with h1|h1
 ·rw[List.drop_eq_getElem_cons h1,List.drop_eq_nil_of_le h];rfl
 ·rw[List.drop_eq_nil_of_le h1];rfl
def ZX (k:iII) (v:Int) (id:iII):∀ es:List (iII×Int),id∈(zR es k v).map (λe=>e.1)↔id∈es.map (λe=>e.1)\/id=k
 | []=>by simp[zR]
 | e::es=>by
  simp only[zR];split
  ·rename_i h;simp only[List.map_cons,List.mem_cons];rw[<-h];constructor
   ·rintro (h|h)
    ·exact .inl (.inl h)
    ·exact .inl (.inr h)
   ·rintro ((h|h)|h)
    ·exact .inl h
    ·exact .inr h
    ·exact .inl h
  ·simp only[List.map_cons,List.mem_cons,ZX k v id es,or_assoc]
def Z1 (id:iII):∀ (l:List iII) (i:Nat) (es:List (iII×Int)),id∈(MA l i es).map (λe=>e.1)↔id∈es.map (λe=>e.1)\/id∈l
 | [],i,es=>by simp[MA]
 | a::l,i,es=>by
  simp only[MA];rw[Z1 id l];cases h:kG es a with
  | none=>simp only[ZX,List.mem_cons,or_assoc]
  | some v =>
   simp only[List.mem_cons];have ha:a∈es.map (λe=>e.1):=by
    rcases yA a es with ⟨h1,_⟩|⟨j,hj,h1,_⟩
    ·rw[h] at h1;cases h1
    ·exact List.mem_map.2 ⟨es[j],ak hj,h1⟩
   constructor
   ·rintro (h|h)
    ·exact .inl h
    ·exact .inr (.inr h)
   ·rintro (h|rfl|h)
    ·exact .inl h
    ·exact .inl ha
    ·exact .inr h
def l7 {l:List iII} {id:iII}:(∃ i,∃ h:i<(jR l).length,(jR l)[i].1=id)↔id∈l:=by
 have h:=Z1 id l 0 [];simp only[List.map_nil,List.not_mem_nil,false_or] at h;rw[<-h,List.mem_map];constructor
 ·rintro ⟨i,hi,e⟩;exact ⟨_,ak hi,e⟩
 ·rintro ⟨e,he,h⟩;obtain ⟨i,hi,rfl⟩:=List.mem_iff_getElem.1 he;exact ⟨i,hi,h⟩
def ET (a0:aG) (m1:List aI) (m2:List aI) (m3:List aI) (m4:List aI):List T:=[XQ a0 m1 m2 m3 m4]
def ANS:Env:=Env.of [(107,.pure zP)]
def A6W:FuncId->Hint:=λf=>match f == 42 with|true=>⟨λr=>match r == 9 with|true=>.inv [.val 4 false .bool,.val 5 false (.int .i64)]|false=>match r == 17 with|true=>.OD 5|false=>match r == 20 with|true=>.alts [[.cF 30],[.cF 29],[.cF 28],[.cF 27],[.cF 26],[.cF 25],[.cF 24],[.cF 23],[.cF 22],[.cF 21],[.cF 20],[.cF 19],[.cF 18],[.cF 17],[.cF 16],[.cF 15],[.cF 14],[.cF 13],[.cF 12],[.cF 11],[.cF 10],[.cF 9],[.cF 8],[.cF 7],[.cF 6],[.cF 5],[.cF 4],[.cF 3],[.cF 2]]|false=>match r == 25 with|true=>.alts [[.map 2 .str false .bool,.cF 30],[.map 2 .str false .bool,.cF 29],[.map 2 .str false .bool,.cF 28],[.map 2 .str false .bool,.cF 27],[.map 2 .str false .bool,.cF 26],[.map 2 .str false .bool,.cF 25],[.map 2 .str false .bool,.cF 24],[.map 2 .str false .bool,.cF 23],[.map 2 .str false .bool,.cF 22],[.map 2 .str false .bool,.cF 21],[.map 2 .str false .bool,.cF 20],[.map 2 .str false .bool,.cF 19],[.map 2 .str false .bool,.cF 18],[.map 2 .str false .bool,.cF 17],[.map 2 .str false .bool,.cF 16],[.map 2 .str false .bool,.cF 15],[.map 2 .str false .bool,.cF 14],[.map 2 .str false .bool,.cF 13],[.map 2 .str false .bool,.cF 12],[.map 2 .str false .bool,.cF 11],[.map 2 .str false .bool,.cF 10],[.map 2 .str false .bool,.cF 9],[.map 2 .str false .bool,.cF 8],[.map 2 .str false .bool,.cF 7],[.map 2 .str false .bool,.cF 6],[.map 2 .str false .bool,.cF 5],[.map 2 .str false .bool,.cF 4],[.map 2 .str false .bool,.cF 3],[.map 2 .str false .bool,.cF 2]]|false=>.none,λi j=>match i == 5&&j == 5 with|true=>some [.val 4 false .bool]|false=>match i == 6&&j == 6 with|true=>some [.val 4 false .bool]|false=>match i == 7&&j == 7 with|true=>some [.val 4 false .bool]|false=>none,λr=>match r == 21 with|true=>some (.str,false,(.int .i64))|false=>match r == 26 with|true=>some (.str,false,(.int .i64))|false=>none⟩|false=>bH
def A43:bB Tryz.prog ANS:=.cons BLF (.nil _)
def WF(a0:aG):List (List T):=List.map a6.enc a0.2.2.2.2.2
def f8(a0:aG):List T:=[pPQ a0.1, T.sl false (GE a0), T.sl false (LT a0), T.sl false (LE a0), T.sl false (IO a0), T.sl false (WF a0)]
def i8(a0:aG):List T:=[pPQ a0.1,T.sl false (GE a0), T.sl false (LT a0), T.sl false (LE a0), T.sl false (IO a0), T.sl false (WF a0)]
def AOX(a0:aG)(m1:List aI)(m2:List aI)(m3:List aI)(m4:List aI)(R:T->Prop):Prop:=aE (decide (64<(↑(GE a0).length:Int))) (R (pPP 4)) (aE (decide (256<(↑(LT a0).length:Int))) (R (pPP 4)) (aE (decide (256<(↑(LE a0).length:Int))) (R (pPP 4)) (aE (decide (64<(↑(IO a0).length:Int))) (R (pPP 4)) (aE (decide (256<(↑(WF a0).length:Int))) (R (pPP 4)) (aJ d5 (zP [pPP (↑(GE a0).length:Int), T.fn 108 [] [T.ref [T.ref (i8 a0)]]]) λ(y0:Bool)=>tW (Bool×PUnit) (λ(X1:Bool×PUnit->Prop)=>aE y0 (aJ d5 (zP [pPP (↑(LT a0).length:Int), T.fn 109 [] [T.ref [T.ref (f8 a0)]]]) λ(y2:Bool)=>X1 (y2,())) (X1 (false,()))) λ(s3:Bool×PUnit)=>tW (Bool×PUnit) (λ(X4:Bool×PUnit->Prop)=>aE s3.1 (aJ d5 (zP [pPP (↑(LE a0).length:Int), T.fn 110 [] [T.ref [T.ref (f8 a0)]]]) λ(y5:Bool)=>X4 (y5,())) (X4 (false,()))) λ(s6:Bool×PUnit)=>tW (Bool×PUnit) (λ(X7:Bool×PUnit->Prop)=>aE s6.1 (aJ d5 (zP [pPP (↑(IO a0).length:Int), T.fn 111 [] [T.ref [T.ref (f8 a0)]]]) λ(y8:Bool)=>X7 (y8,())) (X7 (false,()))) λ(s9:Bool×PUnit)=>a7 (Bool×Int×PUnit) (λX10 s11=>aE (decide (s11.2.1<(↑(WF a0).length:Int))) (aU a6 (WF a0) (i64.wrap (s11.2.1-1)) λ(y12:cP)=>aU a6 (WF a0) s11.2.1 λ(y13:cP)=>aE s11.1 (aE (decide (y12.1<y13.1)) (X10 (true,i64.wrap (s11.2.1+1),())) (aE (decide (y12.1=y13.1)) (aE (cK y12.2.1 y13.2.1) (X10 (true,i64.wrap (s11.2.1+1),())) (aE (decide (y12.2.1=y13.2.1)) (X10 (cK y12.2.2 y13.2.2,i64.wrap (s11.2.1+1), ())) (X10 (false,i64.wrap (s11.2.1+1),())))) (X10 (false,i64.wrap (s11.2.1+1),())))) (X10 (false,i64.wrap (s11.2.1+1),()))) (aE (!s11.1) (R (pPP 11)) (a7 ((List (Value×T)×Nat×List Nat×Nat)×PUnit) (λ(X14:(List (Value×T)×Nat×List Nat×Nat)×PUnit->Prop) (s15:(List (Value×T)×Nat×List Nat×Nat)×PUnit)=>bO (decide (s15.1.1.length<=s15.1.2.1) && decide (s15.1.2.1<=s15.1.2.2.2)) (AI s15.1.1.length s15.1.2.2.1 (fA Sy.str false Sy.bool [] λ(y16:List (iII×Bool))=>a7 (List (iII×Bool) × (List (Value×T)×Nat×List Nat×Nat)×PUnit) (λ(X17 : List (iII×Bool) × (List (Value×T)×Nat×List Nat×Nat)×PUnit -> Prop) (s18 : List (iII×Bool) × (List (Value×T)×Nat×List Nat×Nat)×PUnit)=>bO (decide (s18.2.1.1.length<=s18.2.1.2.1) && decide (s18.2.1.2.1<=s18.2.1.2.2.2)) (AI s18.2.1.1.length s18.2.1.2.2.1 (a7 ((List (Value×T)×Nat×List Nat×Nat)×PUnit) (λ(X19 : (List (Value×T)×Nat×List Nat×Nat)×PUnit->Prop) (s20:(List (Value×T)×Nat×List Nat×Nat)×PUnit)=>bO (decide (s20.1.1.length<=s20.1.2.1) && decide (s20.1.2.1<=s20.1.2.2.2)) (AI s20.1.1.length s20.1.2.2.1 (fA Sy.str false Sy.bool (List.map (dC Sy.str false Sy.bool) s18.1) λ(y21:List (iII×Bool))=>a7 (List (iII×Bool) × (List (Value×T)×Nat×List Nat×Nat)×PUnit) (λ(X22 : List (iII×Bool) × (List (Value×T)×Nat×List Nat×Nat) × PUnit -> Prop) (s23 : List (iII×Bool) × (List (Value×T)×Nat×List Nat×Nat) × PUnit)=>bO (decide (s23.2.1.1.length<=s23.2.1.2.1) && decide (s23.2.1.2.1<=s23.2.1.2.2.2)) (AI s23.2.1.1.length s23.2.1.2.2.1 (a7 ((List (Value×T)×Nat×List Nat×Nat) × PUnit) (λ(X24 : (List (Value×T) × Nat×List Nat×Nat) × PUnit -> Prop) (s25 : (List (Value×T) × Nat×List Nat×Nat) × PUnit)=>bO (decide (s25.1.1.length<=s25.1.2.1) && decide (s25.1.2.1<=s25.1.2.2.2)) (AI s25.1.1.length s25.1.2.2.1 (fA Sy.str false Sy.bool (List.map (dC Sy.str false Sy.bool) s23.1) λ(y26:List (iII×Bool))=>a7 (List (iII×Bool) × (List (Value×T) × Nat×List Nat×Nat) × PUnit) (λ(X27 : List (iII×Bool) × (List (Value×T) × Nat×List Nat×Nat) × PUnit -> Prop) (s28 : List (iII×Bool) × (List (Value×T) × Nat×List Nat×Nat) × PUnit)=>bO (decide (s28.2.1.1.length <= s28.2.1.2.1) && decide (s28.2.1.2.1 <= s28.2.1.2.2.2)) (AI s28.2.1.1.length s28.2.1.2.2.1 (a7 ((List (Value×T) × Nat×List Nat×Nat) × PUnit) (λ(X29 : (List (Value×T) × Nat×List Nat×Nat) × PUnit -> Prop) (s30 : (List (Value×T) × Nat×List Nat×Nat) × PUnit)=>bO (decide (s30.1.1.length <= s30.1.2.1) && decide (s30.1.2.1 <= s30.1.2.2.2)) (AI s30.1.1.length s30.1.2.2.1 (fA Sy.str false Sy.bool (List.map (dC Sy.str false Sy.bool) s28.1) λ(y31 : List (iII×Bool))=>a7 (List (iII×Bool) × (List (Value × T) × Nat × List Nat×Nat) × PUnit) (λ(X32 : List (iII × Bool) × (List (Value × T) × Nat × List Nat × Nat) × PUnit -> Prop) (s33 : List (iII × Bool) × (List (Value × T) × Nat × List Nat × Nat) × PUnit)=>bO (decide (s33.2.1.1.length <= s33.2.1.2.1) && decide (s33.2.1.2.1 <= s33.2.1.2.2.2)) (AI s33.2.1.1.length s33.2.1.2.2.1 (R (pPP 0)) λ(i34:Nat)=>bO (decide (s33.2.1.1.length = s33.2.1.1.length)) (PR Sy.str false d3 (s0 s33.2.1.1) (s33.2.1.2.2.1 ++ [i34]) λ(k35 : iII) (y36:Int)=>qQ (Option (Nat × D)) (findD TypeDesc.string (AED Sy.str k35) (List.map (dC Sy.str false Sy.bool) s33.1) 0) λ(y37 : Option (Nat × D))=>fA Sy.str false Sy.bool (gB (List.map (dC Sy.str false Sy.bool) s33.1) y37 (Value.string k35) (D.p d7)) λ(y38 : List (iII × Bool))=>X32 (y38, (s33.2.1.1, s33.2.1.2.1, s33.2.1.2.2.1 ++ [i34], s33.2.1.1.length), ())))) (y31, (bQ m4, (bQ m4).length, [], (bQ m4).length), ())) λ(i39:Nat)=>bO (decide (s30.1.1.length = s30.1.1.length)) (PR Sy.str false d3 (s0 s30.1.1) (s30.1.2.2.1 ++ [i39]) λ(k40:iII) (y41:Int)=>jC TypeDesc.string (Value.string k40) (List.map (dC Sy.str false Sy.bool) s28.1) false Sy.bool (X29 ((s30.1.1, s30.1.2.1, s30.1.2.2.1 ++ [i39], s30.1.1.length), ())) λ(i42:Nat) (y43:Bool)=>aE y43 (R (pPP 7)) (X29 ((s30.1.1, s30.1.2.1, s30.1.2.2.1 ++ [i39], s30.1.1.length), ()))))) ((bQ m4, (bQ m4).length,[], (bQ m4).length), ())) λ(i44:Nat)=>bO (decide (s28.2.1.1.length = s28.2.1.1.length)) (PR Sy.str false d3 (s0 s28.2.1.1) (s28.2.1.2.2.1++[i44]) λ(k45:iII) (y46:Int)=>qQ (Option (Nat×D)) (findD TypeDesc.string (AED Sy.str k45) (List.map (dC Sy.str false Sy.bool) s28.1) 0) λ(y47 : Option (Nat×D))=>fA Sy.str false Sy.bool (gB (List.map (dC Sy.str false Sy.bool) s28.1) y47 (Value.string k45) (D.p d7)) λ(y48 : List (iII×Bool))=>X27 (y48, (s28.2.1.1, s28.2.1.2.1, s28.2.1.2.2.1 ++ [i44], s28.2.1.1.length), ())))) (y26, (bQ m3,(bQ m3).length,[], (bQ m3).length), ())) λ(i49:Nat)=>bO (decide (s25.1.1.length=s25.1.1.length)) (PR Sy.str false d3 (s0 s25.1.1) (s25.1.2.2.1++[i49]) λ(k50:iII) (y51:Int)=>jC TypeDesc.string (Value.string k50) (List.map (dC Sy.str false Sy.bool) s23.1) false Sy.bool (X24 ((s25.1.1,s25.1.2.1, s25.1.2.2.1++[i49], s25.1.1.length), ())) λ(i52:Nat) (y53:Bool)=>aE y53 (R (pPP 7)) (X24 ((s25.1.1,s25.1.2.1, s25.1.2.2.1++[i49], s25.1.1.length), ()))))) ((bQ m3,(bQ m3).length,[], (bQ m3).length), ())) λ(i54:Nat)=>bO (decide (s23.2.1.1.length=s23.2.1.1.length)) (PR Sy.str false d3 (s0 s23.2.1.1) (s23.2.1.2.2.1++[i54]) λ(k55:iII) (y56:Int)=>qQ (Option (Nat×D)) (findD TypeDesc.string (AED Sy.str k55) (List.map (dC Sy.str false Sy.bool) s23.1) 0) λ(y57:Option (Nat×D))=>fA Sy.str false Sy.bool (gB (List.map (dC Sy.str false Sy.bool) s23.1) y57 (Value.string k55) (D.p d7)) λ(y58:List (iII×Bool))=>X22 (y58, (s23.2.1.1,s23.2.1.2.1, s23.2.1.2.2.1++[i54], s23.2.1.1.length), ())))) (y21, (bQ m2,(bQ m2).length,[], (bQ m2).length), ())) λ(i59:Nat)=>bO (decide (s20.1.1.length=s20.1.1.length)) (PR Sy.str false d3 (s0 s20.1.1) (s20.1.2.2.1++[i59]) λ(k60:iII) (y61:Int)=>jC TypeDesc.string (Value.string k60) (List.map (dC Sy.str false Sy.bool) s18.1) false Sy.bool (X19 ((s20.1.1,s20.1.2.1, s20.1.2.2.1++[i59],s20.1.1.length), ())) λ(i62:Nat) (y63:Bool)=>aE y63 (R (pPP 7)) (X19 ((s20.1.1,s20.1.2.1, s20.1.2.2.1++[i59],s20.1.1.length), ()))))) ((bQ m2,(bQ m2).length,[],(bQ m2).length),())) λ(i64:Nat)=>bO (decide (s18.2.1.1.length=s18.2.1.1.length)) (PR Sy.str false d3 (s0 s18.2.1.1) (s18.2.1.2.2.1++[i64]) λ(k65:iII) (y66:Int)=>qQ (Option (Nat×D)) (findD TypeDesc.string (AED Sy.str k65) (List.map (dC Sy.str false Sy.bool) s18.1) 0) λ(y67:Option (Nat×D))=>fA Sy.str false Sy.bool (gB (List.map (dC Sy.str false Sy.bool) s18.1) y67 (Value.string k65) (D.p d7)) λ(y68:List (iII×Bool))=>X17 (y68, (s18.2.1.1,s18.2.1.2.1, s18.2.1.2.2.1++[i64],s18.2.1.1.length), ())))) (y16,(bQ m1,(bQ m1).length,[],(bQ m1).length),())) λ(i69:Nat)=>bO (decide (s15.1.1.length=s15.1.1.length)) (PR Sy.str false d3 (s0 s15.1.1) (s15.1.2.2.1++[i69]) λ(k70:iII) (y71:Int)=>jC TypeDesc.string (Value.string k70) [] false Sy.bool (X14 ((s15.1.1,s15.1.2.1,s15.1.2.2.1++[i69], s15.1.1.length), ())) λ(i72:Nat) (y73:Bool)=>aE y73 (R (pPP 7)) (X14 ((s15.1.1,s15.1.2.1,s15.1.2.2.1++[i69], s15.1.1.length), ()))))) ((bQ m1,(bQ m1).length,[],(bQ m1).length),())))) (s9.1,1,()))))))
def AYP ( a0 m1 m2 m3 m4 R):fE cA Tryz.prog ANS A6W 8 42 (ET a0 m1 m2 m3 m4) R=AOX a0 m1 m2 m3 m4 R:=by kernel_rfl
abbrev MP:=List (iII×Int)
def G6 {a b:MP} (h:bQ a=bQ b):a=b:=map_inj (λx y h=>by
 simp only[Prod.mk.injEq,Value.string.injEq,T.v.injEq,Value.int.injEq,true_and] at h;exact Prod.ext h.1 h.2) h
def sY {x y:aG×MP×MP×MP×MP} (h:XQ x.1 x.2.1 x.2.2.1 x.2.2.2.1 x.2.2.2.2=XQ y.1 y.2.1 y.2.2.1 y.2.2.2.1 y.2.2.2.2):x=y:=by
 simp only[XQ,T.ref.injEq,List.cons.injEq,T.mp.injEq,and_true] at h;obtain ⟨h0,h1,h2,h3,h4⟩:=h;exact Prod.ext (Sy.eU aF _ _ h0) (Prod.ext (G6 h1) (Prod.ext (G6 h2) (Prod.ext (G6 h3) (G6 h4))))
def ANJ (x y:aG×MP×MP×MP×MP) (h:ET x.1 x.2.1 x.2.2.1 x.2.2.2.1 x.2.2.2.2=ET y.1 y.2.1 y.2.2.1 y.2.2.2.1 y.2.2.2.2):x=y:=sY (List.cons.inj h).1
def fO (d:aG):Bool:=decide (64<d.2.1.length)||decide (256<d.2.2.1.length)||decide (256<d.2.2.2.1.length)||decide (64<d.2.2.2.2.1.length)||decide (256<d.2.2.2.2.2.length)
def jX (d:aG):Bool:=oG (ids d.2.1)&&oG (ids d.2.2.1)&&oG (ids d.2.2.2.1)&&oG (ids d.2.2.2.2.1)&&ACO d.2.2.2.2.2
def A8E (l1 l2 l3 l4:List iII):Bool:=(l2.any (oR l1))||(l3.any λx=>oR l1 x||oR l2 x)||(l4.any λx=>oR l1 x||oR l2 x||oR l3 x)
def LL (d:aG):Bool:=A8E (ids d.2.1) (ids d.2.2.1) (ids d.2.2.2.1) (ids d.2.2.2.2.1)
def fW (d:aG):Int:=if fO d=true then 4 else if jX d=false then 11 else if LL d=true then 7 else 0
def BP3 (x:aG×MP×MP×MP×MP):Bool:=decide (x.2.1=jR (ids x.1.2.1))&&decide (x.2.2.1=jR (ids x.1.2.2.1))&&decide (x.2.2.2.1=jR (ids x.1.2.2.2.1))&&decide (x.2.2.2.2=jR (ids x.1.2.2.2.2.1)) &&
 (decide (x.1.2.1.length<=140737488355328)&&decide (x.1.2.2.1.length<=140737488355328)&&decide (x.1.2.2.2.1.length<=140737488355328)&&decide (x.1.2.2.2.2.1.length<=140737488355328)&&decide (x.1.2.2.2.2.2.length<=140737488355328))
structure oJ (d:aG):Prop where
 n:d.2.1.length<=140737488355328
 p:d.2.2.1.length<=140737488355328
 s:d.2.2.2.1.length<=140737488355328
 k:d.2.2.2.2.1.length<=140737488355328
 r:d.2.2.2.2.2.length<=140737488355328
def VM {x:aG×MP×MP×MP×MP}:BP3 x=true↔x=(x.1,jR (ids x.1.2.1),jR (ids x.1.2.2.1),jR (ids x.1.2.2.2.1),jR (ids x.1.2.2.2.2.1))/\oJ x.1:=by
 obtain ⟨d,a,b,c,e⟩:=x;simp only[BP3,ac,ah,Prod.mk.injEq,true_and];constructor
 ·rintro ⟨⟨⟨⟨rfl,rfl⟩,rfl⟩,rfl⟩,⟨⟨⟨h1,h2⟩,h3⟩,h4⟩,h5⟩;exact ⟨⟨rfl,rfl,rfl,rfl⟩,h1,h2,h3,h4,h5⟩
 ·rintro ⟨⟨rfl,rfl,rfl,rfl⟩,h1,h2,h3,h4,h5⟩;exact ⟨⟨⟨⟨rfl,rfl⟩,rfl⟩,rfl⟩,⟨⟨⟨h1,h2⟩,h3⟩,h4⟩,h5⟩
def zJ (x:aG×MP×MP×MP×MP) (t:T):Option T:=match BP3 x with
 | true=>some t
 | false=>none
def pY {x:aG×MP×MP×MP×MP} {t r:T} (h:zJ x t=some r):x=(x.1,jR (ids x.1.2.1),jR (ids x.1.2.2.1),jR (ids x.1.2.2.2.1),jR (ids x.1.2.2.2.2.1))/\oJ x.1/\r=t:=by
 unfold zJ at h;split at h
 ·rename_i hc;cases h;exact ⟨(VM.1 hc).1,(VM.1 hc).2,rfl⟩
 ·cases h
def pZ {d:aG} (h:oJ d) (t:T):zJ (d,jR (ids d.2.1),jR (ids d.2.2.1),jR (ids d.2.2.2.1),jR (ids d.2.2.2.2.1)) t=some t:=by
 unfold zJ;rw[VM.2 ⟨rfl,h⟩]
def AF6 (x:aG×MP×MP×MP×MP):Option T:=zJ x (T.v (Value.int .i64 (fW x.1)))
def UN:List T->Option (T):=gA (λ(x:aG×List aI×List aI×List aI×List aI)=>ET x.1 x.2.1 x.2.2.1 x.2.2.2.1 x.2.2.2.2) AF6
def A1D (a0:aG) (m1:List aI) (m2:List aI) (m3:List aI) (m4:List aI):UN (ET a0 m1 m2 m3 m4)=AF6 (a0,m1,m2,m3,m4):=gF (A:=(λ(x:aG×List aI×List aI×List aI×List aI)=>ET x.1 x.2.1 x.2.2.1 x.2.2.2.1 x.2.2.2.2)) ANJ (a0,m1,m2,m3,m4)
def BJH (h:∀ (a0:aG) (m1:List aI) (m2:List aI) (m3:List aI) (m4:List aI) (r:T),AF6 (a0,m1,m2,m3,m4)=some r->(∀ t∈ET a0 m1 m2 m3 m4,Bd t)->AOX a0 m1 m2 m3 m4 (λy=>y=r)):aT Tryz.prog 42 UN :=
 dA (E:=ANS) (Hs:=A6W) A43 aV aY (aQ rfl) 8 ⟨_,_,Tryz.func42,rfl⟩ λx r h1 h2=>by
  rw[AYP];exact h x.1 x.2.1 x.2.2.1 x.2.2.2.1 x.2.2.2.2 r h1 h2
def QU {A:List T} {b:Bool} (h:zP A=some (pPR b)) (K:Bool->Prop) (hk:K b):aJ [(false,Sy.bool)] (zP A) K:=aM (s:=[(false,Sy.bool)]) (y:=b) h hk
def BH6:aT Tryz.prog 42 UN:=BJH λd m1 m2 m3 m4 r h hb=>by
 obtain ⟨hx,hs,rfl⟩:=pY h;simp only[Prod.mk.injEq,true_and] at hx;obtain ⟨rfl,rfl,rfl,rfl⟩:=hx;clear h;have is:∀ {n:Int},fW d=n->T.v (.int .i64 n)=T.v (.int .i64 (fW d)):=λh=>by rw[h]
 have long:fO d=true->fW d=4:=λh=>by unfold fW;rw[if_pos h]
 unfold AOX i8 f8 WF LT LE IO GE d7 d5 d3;refine b8 (λh=>is (long (by rw[ae] at h;simp only[fO,Bool.or_eq_true,ah];omega))) λl1=>?_;refine b8 (λh=>is (long (by rw[ae] at h;simp only[fO,Bool.or_eq_true,ah];omega))) λl2=>?_;refine b8 (λh=>is (long (by rw[ae] at h;simp only[fO,Bool.or_eq_true,ah];omega))) λl3=>?_;refine b8 (λh=>is (long (by rw[ae] at h;simp only[fO,Bool.or_eq_true,ah];omega))) λl4=>?_;refine b8 (λh=>is (long (by rw[ae] at h;simp only[fO,Bool.or_eq_true,ah];omega))) λl5=>?_;rw[ae] at l1 l2 l3 l4 l5;have notLong:fO d=false:=by simp only[fO,Bool.or_eq_false_iff,decide_eq_false_iff_not];omega
 refine QU (by rw[ae];exact BN6 hs.n) _ ?_;have step:∀ {b c:Bool} {A:List T} {Z:Bool×PUnit->Prop},zP A=some (T.v (.bool c))->Z (b&&c,())->tW (Bool×PUnit) (λ(X:Bool×PUnit->Prop)=>aE b (aJ [(false,Sy.bool)] (zP A) λ(y2:Bool)=>X (y2,())) (X (false,()))) Z:=λ{b c A Z} hA hZ=>by
  rw[C0];cases b with
  | true=>rw[fL];exact QU hA _ hZ
  | false=>rw[hU];exact hZ
 refine step (by rw[ae];exact BN7 hs.p) ?_;refine step (by rw[ae];exact BN8 hs.s) ?_;refine step (by rw[ae];exact BN9 hs.k) ?_;refine bJ d.2.2.2.2.2.length (λk s=>∃ b,s=(b,((k+1:Nat):Int),())/\(b&&ACO (d.2.2.2.2.2.drop k))=jX d) ⟨_,rfl,by rw[List.drop_zero];rfl⟩ ?_;rintro X k s hk ⟨b,rfl,he⟩ hX;dsimp only;have hr:=hs.r;have hw:i64.wrap (((k+1:Nat):Int)+1)=((k+1+1:Nat):Int):=aZ _ (by omega) (by omega);have hw1:i64.wrap (((k+1:Nat):Int)-1)=((k:Nat):Int):=by rw[aZ _ (by omega) (by omega)];omega
 refine b8 (λhlt=>?_) λhge=>?_
 ·have hlt:k+1<d.2.2.2.2.2.length:=by rw[ae] at hlt;omega
  rw[hw1,bA (r:=a6) (show k<d.2.2.2.2.2.length by omega),bA (r:=a6) hlt,hw];rw[Y3 hlt] at he;have go:∀ c,(b&&ltN d.2.2.2.2.2[k] d.2.2.2.2.2[k+1])=c->X (c,((k+1+1:Nat):Int),()):=λc hc=>hX _ (by omega) ⟨c,rfl,by rw[<-hc,Bool.and_assoc];exact he⟩;generalize d.2.2.2.2.2[k]=u at go;generalize d.2.2.2.2.2[k+1]=v at go;cases b with
  | false=>rw[hU];exact go _ rfl
  | true =>
   rw[fL];simp only[Bool.true_and,ltN] at go;refine b8 (λh=>go _ (by simp[h])) λh1=>?_;refine b8 (λh2=>?_) λh2=>go _ (by simp[h1,h2]);refine zQ (λh3=>go _ (by simp[h2,h3])) λh3=>?_;refine b8 (λh4=>go _ (by rw[aj h1,ai h2,h3,ai h4];rfl)) λh4=>go _ (by rw[aj h1,ai h2,h3,aj h4];rfl)
 ·rw[ae] at hge;rw[AIA (by omega),Bool.and_true] at he;refine eQ (λh=>is (by unfold fW;rw[notLong,if_neg (by simp),<-he,h];rfl)) λh=>?_;have dup:LL d=true->T.v (.int .i64 7)=T.v (.int .i64 (fW d)):=λh7=>is (by unfold fW;rw[notLong,if_neg (by simp),<-he,h,if_neg (by simp),if_pos h7]);have dup':(∃ i,∃ h:i<(jR (ids d.2.2.1)).length,(jR (ids d.2.2.1))[i].1∈ids d.2.1)\/(∃ i,∃ h:i<(jR (ids d.2.2.2.1)).length,(jR (ids d.2.2.2.1))[i].1∈ids d.2.1\/(jR (ids d.2.2.2.1))[i].1∈ids d.2.2.1)\/(∃ i,∃ h:i<(jR (ids d.2.2.2.2.1)).length,((jR (ids d.2.2.2.2.1))[i].1∈ids d.2.1\/(jR (ids d.2.2.2.2.1))[i].1∈ids d.2.2.1)\/(jR (ids d.2.2.2.2.1))[i].1∈ids d.2.2.2.1)->LL d=true:=by
   intro h;simp only[LL,A8E,Bool.or_eq_true,List.any_eq_true,l8];rcases h with ⟨i,hi,h⟩|⟨i,hi,h⟩|⟨i,hi,h⟩
   ·exact .inl (.inl ⟨_,l7.1 ⟨i,hi,rfl⟩,h⟩)
   ·exact .inl (.inr ⟨_,l7.1 ⟨i,hi,rfl⟩,h⟩)
   ·exact .inr ⟨_,l7.1 ⟨i,hi,rfl⟩,h⟩
  have m1:=λid=>(@l7 (ids d.2.1) id)
  refine BHM (m:=jR (ids d.2.1)) (es:=[]) (R7:=T.v (.int .i64 7)=T.v (.int .i64 (fW d))) Seen.nil (λh=>by obtain ⟨_,_,h⟩:=h;exact h.elim) λ_=>?_;refine BHG (m:=jR (ids d.2.1)) (es:=[]) Seen.nil λe1 rs1 s1=>?_;have s1:=s1.congr (S':=λid=>id∈ids d.2.1) λid=>by rw[l7];simp
  refine BHM (m:=jR (ids d.2.2.1)) s1 (λh=>dup (dup' (.inl h))) λn1=>?_;refine BHG (m:=jR (ids d.2.2.1)) s1 λe2 rs2 s2=>?_;have s2:=s2.congr (S':=λid=>id∈ids d.2.1\/id∈ids d.2.2.1) λid=>by rw[l7]
  refine BHM (m:=jR (ids d.2.2.2.1)) s2 (λh=>dup (dup' (.inr (.inl h)))) λn2=>?_;refine BHG (m:=jR (ids d.2.2.2.1)) s2 λe3 rs3 s3=>?_;have s3:=s3.congr (S':=λid=>(id∈ids d.2.1\/id∈ids d.2.2.1)\/id∈ids d.2.2.2.1) λid=>by rw[l7]
  refine BHM (m:=jR (ids d.2.2.2.2.1)) s3 (λh=>dup (dup' (.inr (.inr h)))) λn3=>?_;refine BHG (m:=jR (ids d.2.2.2.2.1)) s3 λe4 rs4 s4=>is ?_;have nd:LL d=false:=by
   rw[Bool.eq_false_iff];intro h;simp only[LL,A8E,Bool.or_eq_true,List.any_eq_true,l8] at h;rcases h with (⟨x,hx,h⟩|⟨x,hx,h⟩)|⟨x,hx,h⟩
   ·obtain ⟨i,hi,rfl⟩:=l7.2 hx;exact n1 i hi h
   ·obtain ⟨i,hi,rfl⟩:=l7.2 hx;exact n2 i hi h
   ·obtain ⟨i,hi,rfl⟩:=l7.2 hx;exact n3 i hi h
  unfold fW;rw[notLong,if_neg (by simp),<-he,h,if_neg (by simp),nd,if_neg (by simp)]
end Go.Pv
namespace Go.Pv
open Go Go.Proofs IntKind
def BR1:List T->Option T:=λ_=>none
variable {P:Program}
def aT.nil {f:FuncId} (h:∃ fn,P.funcs[f]? = some fn/\(fn.name == "runtime.NumGoroutine")=false/\fn.body.isNone=false):aT P f BR1:=⟨h,λ_ _ _ _ _ _ _ _ h=>by cases h⟩
def ALL (es:MP):s0 (bQ es)=List.map (dC Sy.str false (Sy.int IntKind.i64)) es:=by
 unfold s0 bQ;rw[List.map_map];rfl
def ZW {α:Type} (id:iII):∀ (l:List (iII×α)) (i:Nat) (es:MP),(∃ v,kG es id=some v/\kG (MA (ids l) i es) id=some v)\/(kG es id=none/\kG (MA (ids l) i es) id=none/\l.find? (λs=>decide (s.1=id))=none) \/
  (kG es id=none/\∃ k,∃ h:k<l.length,kG (MA (ids l) i es) id=some ((i+k:Nat):Int)/\l.find? (λs=>decide (s.1=id))=some l[k])
 | [],i,es=>by
  cases h:kG es id with
  | none=>exact .inr (.inl ⟨rfl,by simpa [ids,MA] using h,rfl⟩)
  | some v=>exact .inl ⟨v,rfl,by simpa [ids,MA] using h⟩
 | a::l,i,es=>by
  have hs:ids (a::l)=a.1::ids l:=rfl;rw[hs];simp only[MA];have ih:=ZW id l (i+1) (match kG es a.1 with|none=>zR es a.1 (i:Int)|some _=>es);by_cases ha:a.1=id
  ·subst ha;cases hc:kG es a.1 with
   | some v =>
    simp only[hc] at ih ⊢;rcases ih with ⟨v',h1,h2⟩|⟨h1,_⟩|⟨h1,_⟩
    ·exact .inl ⟨v',h1,h2⟩
    ·cases h1
    ·cases h1
   | none =>
    simp only[hc] at ih ⊢;have hg:kG (zR es a.1 (i:Int)) a.1=some (i:Int):=by rw[BH];simp
    rw[hg] at ih;rcases ih with ⟨v',h1,h2⟩|⟨h1,_⟩|⟨h1,_⟩
    ·cases h1;exact .inr (.inr ⟨by first|rfl|trivial,0,by simp,by simpa using h2,by simp⟩)
    ·cases h1
    ·cases h1
  ·have hg:kG (match kG es a.1 with|none=>zR es a.1 (i:Int)|some _=>es) id=kG es id:=by
    cases hc:kG es a.1 with
    | none=>simp only[BH,ha,if_false]
    | some v=>rfl
   rw[hg] at ih;rcases ih with ⟨v',h1,h2⟩|⟨h1,h2,h3⟩|⟨h1,k,hk,h2,h3⟩
   ·exact .inl ⟨v',h1,h2⟩
   ·exact .inr (.inl ⟨h1,h2,by rw[List.find?_cons_of_neg (by simpa using ha)];exact h3⟩)
   ·exact .inr (.inr ⟨h1,k+1,by simpa using hk,h2.trans (by congr 2;omega),by rw[List.find?_cons_of_neg (by simpa using ha)];simpa using h3⟩)
variable {α:Type}
def wH (id:iII) (l:List (iII×α)):(kG (jR (ids l)) id=none/\l.find? (λs=>decide (s.1=id))=none)\/(∃ k,∃ h:k<l.length,kG (jR (ids l)) id=some (k:Int)/\l.find? (λs=>decide (s.1=id))=some l[k]):=by
 rcases ZW id l 0 [] with ⟨v,h,_⟩|⟨_,h1,h2⟩|⟨_,k,hk,h1,h2⟩
 ·cases h
 ·exact .inl ⟨h1,h2⟩
 ·exact .inr ⟨k,hk,h1.trans (by rw[Nat.zero_add]),h2⟩
variable {A:Prop}
def ixK {id:iII} {l:List (iII×α)} {B:Nat->Int->Prop} (hA:l.find? (λs=>decide (s.1=id))=none->A) (hB:∀ i k (h:k<l.length),l.find? (λs=>decide (s.1=id))=some l[k]->B i (k:Int)) :
  jC TypeDesc.string (Value.string id) (s0 (bQ (jR (ids l)))) false (Sy.int IntKind.i64) A B:=by
 rw[ALL];refine HC (r:=.int .i64) (λh=>hA ?_) λi v h=>?_
 ·rcases wH id l with ⟨_,h2⟩|⟨k,hk,h1,_⟩
  ·exact h2
  ·rw[h] at h1;cases h1
 ·rcases wH id l with ⟨h1,_⟩|⟨k,hk,h1,h2⟩
  ·rw[h] at h1;cases h1
  ·rw[h] at h1;cases h1;exact hB i k hk h2
def nL (a0:aG) (m1:List aI) (m2:List aI) (m3:List aI) (m4:List aI) (a5:iII):List T:=[XQ a0 m1 m2 m3 m4,pPQ a5]
def AHZ:FuncId->Hint:=bP 258 [(3,.inv [.val 1 false .str,.own 6 1 .str,.val 9 false (.int .i64)])] (λ_=>bH)
def SP(a0:aG)(m1:List aI)(m2:List aI)(m3:List aI)(m4:List aI)(a5:iII)(R:T->Prop):Prop:=a7 (iII×List iII×Int×PUnit) (λX0 s1=>aE (decide (s1.2.2.1<65)) (jC TypeDesc.string (Value.string s1.1) (s0 (bQ m1)) false d3 (R (T.cB d9)) λ(i2:Nat) (y3:Int)=>aU bC (GE a0) y3 λ(y4:eH)=>bO (decide (((List.map Sy.str.enc s1.2.1).length+1)*16<=140737488355328) && decide ((List.map Sy.str.enc s1.2.1).length+1<=140737488355328)) (aE (decide (y4.2.1=1)) (R (T.cB [T.sl false (BTY s1), pPR true])) (cD Sy.str (BTY s1) λ(y5:List iII)=>X0 (y4.2.2,y5,i64.wrap (s1.2.2.1+1),())))) (R (T.cB d9))) (a5,[],0,())
def AHR ( a0 m1 m2 m3 m4 a5 R):fE cA Tryz.prog oU AHZ 8 113 (nL a0 m1 m2 m3 m4 a5) R=SP a0 m1 m2 m3 m4 a5 R:=by kernel_rfl
def GG (x y:aG×MP×MP×MP×MP×iII) (h:nL x.1 x.2.1 x.2.2.1 x.2.2.2.1 x.2.2.2.2.1 x.2.2.2.2.2=nL y.1 y.2.1 y.2.2.1 y.2.2.2.1 y.2.2.2.2.1 y.2.2.2.2.2):x=y:=by
 obtain ⟨h1,h2⟩:=List.cons.inj h;have:=sY (x:=(x.1,x.2.1,x.2.2.1,x.2.2.2.1,x.2.2.2.2.1)) (y:=(y.1,y.2.1,y.2.2.1,y.2.2.2.1,y.2.2.2.2.1)) h1;simp only[List.cons.injEq,T.v.injEq,Value.string.injEq,and_true] at h2;simp only[Prod.mk.injEq] at this;obtain ⟨e1,e2,e3,e4,e5⟩:=this;exact Prod.ext e1 (Prod.ext e2 (Prod.ext e3 (Prod.ext e4 (Prod.ext e5 h2))))
def OB (x:aG×MP×MP×MP×MP×iII):Option T:=zJ (x.1,x.2.1,x.2.2.1,x.2.2.2.1,x.2.2.2.2.1) (Sh.enc [(false,.li .str),(false,.bool)] (up x.1 x.2.2.2.2.2))
def l6:List T->Option (T):=gA (λ(x:aG×List aI×List aI×List aI×List aI×iII)=>nL x.1 x.2.1 x.2.2.1 x.2.2.2.1 x.2.2.2.2.1 x.2.2.2.2.2) OB
def AK5 (a0:aG) (m1:List aI) (m2:List aI) (m3:List aI) (m4:List aI) (a5:iII):l6 (nL a0 m1 m2 m3 m4 a5)=OB (a0,m1,m2,m3,m4,a5):=gF (A:=(λ(x:aG×List aI×List aI×List aI×List aI×iII)=>nL x.1 x.2.1 x.2.2.1 x.2.2.2.1 x.2.2.2.2.1 x.2.2.2.2.2)) GG (a0,m1,m2,m3,m4,a5)
def A27 (h:∀ (a0:aG) (m1:List aI) (m2:List aI) (m3:List aI) (m4:List aI) (a5:iII) (r:T),OB (a0,m1,m2,m3,m4,a5)=some r->(∀ t∈nL a0 m1 m2 m3 m4 a5,Bd t)->SP a0 m1 m2 m3 m4 a5 (λy=>y=r)):aT Tryz.prog 113 l6 :=
 dA (E:=oU) (Hs:=AHZ) (bM _) aV aY (aQ rfl) 8 ⟨_,_,Tryz.func113,rfl⟩ λx r h1 h2=>by
  rw[AHR];exact h x.1 x.2.1 x.2.2.1 x.2.2.2.1 x.2.2.2.2.1 x.2.2.2.2.2 r h1 h2
def ZG:aT Tryz.prog 113 l6:=A27 λd m1 m2 m3 m4 id0 r h hb=>by
 obtain ⟨hx,hs,rfl⟩:=pY h;simp only[Prod.mk.injEq,true_and] at hx;obtain ⟨rfl,rfl,rfl,rfl⟩:=hx;clear h;unfold SP BTY GE d9 d3;refine bJ 65 (λk s=>∃ id' l',s=(id',l',(k:Int),())/\l'.length=k/\upF d (65-k) id' l'=up d id0) ⟨id0,[],rfl,rfl,rfl⟩ ?_;rintro X k s hk ⟨id',l',rfl,hl,hu⟩ hX;dsimp only;have stop:up d id0=([],false)->T.cB [T.sl false [],T.v (.bool false)]=Sh.enc [(false,.li .str),(false,.bool)] (up d id0):=λh=>by rw[h];rfl
 refine b8 (λhlt=>?_) λhge=>stop ?_
 ·have hlt:k<65:=by omega
  obtain ⟨m,hm⟩:∃ m,65-k=m+1:=⟨64-k,by omega⟩
  rw[hm] at hu;simp only[upF] at hu;refine ixK (λhn=>stop ?_) λi j hj hn=>?_
  ·have hn:cG d id'=none:=hn;rw[hn] at hu;exact hu.symm
  ·have hn:cG d id'=some d.2.1[j]:=hn;simp only[hn] at hu;rw[bA (r:=bC) hj,E4 (by omega),G3];refine b8 (λh1=>?_) λh1=>?_
   ·rw[if_pos h1] at hu;rw[<-hu,AIU];rfl
   ·rw[if_neg h1] at hu;exact hX _ hlt ⟨_,_,by rw[show i64.wrap ((k:Int)+1)=((k+1:Nat):Int) from aZ _ (by omega) (by omega)],by simp[hl],by rw[<-hu];congr 1;omega⟩
 ·have:65-k=0:=by omega
  rw[this] at hu;exact hu.symm
def mA (d:aG) (n:eH):Int:=if kH n.1=false then 6 else if ¬ n.2.1=1/\¬ n.2.1=2 then 10 else if n.2.1=1/\¬ n.2.2 = { data:=#[] } then 2 else if n.2.1=2/\(cG d n.2.2).isNone=true then 8 else 0
def PV (d:aG):Bool:=d.2.1.any λn=>!(up d n.1).2
def TH (d:aG):Bool:=d.2.1.any λn=>decide (8<(up d n.1).1.length)
def fD (d:aG):Int:=if bT (mA d) d.2.1=0 then (if PV d=true then 20 else if TH d=true then 13 else 0) else bT (mA d) d.2.1
def rT (a0:aG) (m1:List aI) (m2:List aI) (m3:List aI) (m4:List aI):List T:=[XQ a0 m1 m2 m3 m4]
def RJ:Env:=Env.of [(112,.pure fP),(113,.pure l6)]
def AHT:FuncId->Hint:=bP 43 [(2,.inv [.val 20 false (.int .i64)]),(16,.inv [.val 7 false .bool,.val 74 false (.int .i64)])] (λ_=>bH)
def AN0:bB Tryz.prog RJ:=.cons QL (.cons ZG (.nil _))
def t7(R:T->Prop):Prop:=R (pPP 8)
def BTM(R:T->Prop):Prop:=R (pPP 2)
def BTO:T:=pPP 10
def BTQ(R:T->Prop):Prop:=R (pPP 6)
def BTV(R:T->Prop):Prop:=R (pPP 0)
def BTX(y2:eH)(R:T->Prop)(X0:Int×PUnit->Prop)(s1:Int×PUnit):Prop:=aE (decide (y2.2.1=1)) (aE (!decide (y2.2.2 = {data:=#[]})) (BTM R) (aE (decide (y2.2.1=2)) (g9 X0 s1) (g9 X0 s1))) (aE (decide (y2.2.1=2)) (g9 X0 s1) (g9 X0 s1))
def BT0(y2:eH)(R:T->Prop)(X0:Int×PUnit->Prop)(s1:Int×PUnit):Prop:=aE (decide (y2.2.1=1)) (aE (!decide (y2.2.2 = {data:=#[]})) (BTM R) (aE (decide (y2.2.1=2)) (t7 R) (g9 X0 s1))) (aE (decide (y2.2.1=2)) (t7 R) (g9 X0 s1))
def RQ(a0:aG)(m1:List aI)(m2:List aI)(m3:List aI)(m4:List aI)(R:T->Prop):Prop:=a7 (Int×PUnit) (λX0 s1=>aE (decide (s1.1<(↑(GE a0).length:Int))) (aU bC (GE a0) s1.1 λ(y2:eH)=>jC TypeDesc.string (Value.string y2.2.2) (s0 (bQ m1)) false d3 (aJ d5 (fP [pPQ y2.1]) λ(y6:Bool)=>aE (!y6) (BTQ R) (aE (!decide (y2.2.1=1)) (aE (!decide (y2.2.1=2)) (R BTO) (BT0 y2 R X0 s1)) (BT0 y2 R X0 s1))) λ(i3:Nat) (y4:Int)=>aJ d5 (fP [pPQ y2.1]) λ(y5:Bool)=>aE (!y5) (BTQ R) (aE (!decide (y2.2.1=1)) (aE (!decide (y2.2.1=2)) (R BTO) (BTX y2 R X0 s1)) (BTX y2 R X0 s1))) (a7 (Bool×Int×PUnit) (λX7 s8=>aE (decide (s8.2.1<(↑(GE a0).length:Int))) (aU bC (GE a0) s8.2.1 λ(y9:eH)=>aJ eI (l6 [T.ref [T.ref (i8 a0), T.mp (bQ m1),T.mp (bQ m2),T.mp (bQ m3), T.mp (bQ m4)], pPQ y9.1]) λ(y10:List iII×Bool)=>aE (!y10.2) (R (pPP 20)) (aE s8.1 (X7 (true,i64.wrap (s8.2.1+1),())) (X7 (decide (8<(↑(List.map Sy.str.enc y10.1).length:Int)), i64.wrap (s8.2.1+1),())))) (aE s8.1 (R (pPP 13)) (BTV R))) (false,0,()))) (0,())
def AHM ( a0 m1 m2 m3 m4 R):fE cA Tryz.prog RJ AHT 8 43 (rT a0 m1 m2 m3 m4) R=RQ a0 m1 m2 m3 m4 R:=by kernel_rfl
def ABB (x y:aG×MP×MP×MP×MP) (h:rT x.1 x.2.1 x.2.2.1 x.2.2.2.1 x.2.2.2.2=rT y.1 y.2.1 y.2.2.1 y.2.2.2.1 y.2.2.2.2):x=y:=sY (List.cons.inj h).1
def N1 (x:aG×MP×MP×MP×MP):Option T:=zJ x (T.v (Value.int .i64 (fD x.1)))
def AM:List T->Option (T):=gA (λ(x:aG×List aI×List aI×List aI×List aI)=>rT x.1 x.2.1 x.2.2.1 x.2.2.2.1 x.2.2.2.2) N1
def AJI (a0:aG) (m1:List aI) (m2:List aI) (m3:List aI) (m4:List aI):AM (rT a0 m1 m2 m3 m4)=N1 (a0,m1,m2,m3,m4):=gF (A:=(λ(x:aG×List aI×List aI×List aI×List aI)=>rT x.1 x.2.1 x.2.2.1 x.2.2.2.1 x.2.2.2.2)) ABB (a0,m1,m2,m3,m4)
def A16 (h:∀ (a0:aG) (m1:List aI) (m2:List aI) (m3:List aI) (m4:List aI) (r:T),N1 (a0,m1,m2,m3,m4)=some r->(∀ t∈rT a0 m1 m2 m3 m4,Bd t)->RQ a0 m1 m2 m3 m4 (λy=>y=r)):aT Tryz.prog 43 AM :=
 dA (E:=RJ) (Hs:=AHT) AN0 aV aY (aQ rfl) 8 ⟨_,_,Tryz.func43,rfl⟩ λx r h1 h2=>by
  rw[AHM];exact h x.1 x.2.1 x.2.2.1 x.2.2.2.1 x.2.2.2.2 r h1 h2
def O1 {d:aG} (hs:oJ d) (id:iII):l6 (nL d (jR (ids d.2.1)) (jR (ids d.2.2.1)) (jR (ids d.2.2.2.1)) (jR (ids d.2.2.2.2.1)) id)=some (Sh.enc [(false,.li .str),(false,.bool)] (up d id)):=by
 rw[AK5];exact pZ hs _
def oQ (s:iII) (K:Bool->Prop):aJ [(false,Sy.bool)] (fP [pPQ s]) K=K (kH s):=by
 rw[show fP [pPQ s]=J0 s from A1E];exact AMG _ K
def AZ3:aT Tryz.prog 43 AM:=A16 λd m1 m2 m3 m4 r h hb=>by
 obtain ⟨hx,hs,rfl⟩:=pY h;simp only[Prod.mk.injEq,true_and] at hx;obtain ⟨rfl,rfl,rfl,rfl⟩:=hx;clear h;have is:∀ {n:Int},fD d=n->T.v (.int .i64 n)=T.v (.int .i64 (fD d)):=λh=>by rw[h]
 unfold RQ BT0 BTX BTV i8 g9 BTQ BTO BTM t7 WF LT LE IO GE eI d5 d3;refine gX (r:=bC) (mA d) hs.n (λX s y hy hok hbad=>?_) λh0=>?_
 ·have bad:∀ {n:Int},n≠0->mA d y=n->T.v (.int .i64 n)=T.v (.int .i64 (fD d)):=λhn h=>is (by
   have:=hbad (by rw[h];exact hn);unfold fD;rw[if_neg (by rw[this,h];exact hn),this,h])
  have tail:∀ {Z2 Z:Prop},kH y.1=true->(y.2.1=2->Z2)->(mA d y=0->Z) ->
   aE (!decide (y.2.1=1))
        (aE (!decide (y.2.1=2)) (T.v (.int .i64 10)=T.v (.int .i64 (fD d)))
         (aE (decide (y.2.1=1))
          (aE (!decide (y.2.2 = { data:=#[] })) (T.v (.int .i64 2)=T.v (.int .i64 (fD d)))
           (aE (decide (y.2.1=2)) Z2 Z))
          (aE (decide (y.2.1=2)) Z2 Z)))
        (aE (decide (y.2.1=1))
         (aE (!decide (y.2.2 = { data:=#[] })) (T.v (.int .i64 2)=T.v (.int .i64 (fD d)))
          (aE (decide (y.2.1=2)) Z2 Z))
         (aE (decide (y.2.1=2)) Z2 Z)):=by
   intro Z2 Z hid h2 h1;refine kD (λg1=>?_) λg1=>?_
   ·refine kD (λg2=>bad (by decide) (by unfold mA;rw[if_neg (by simp[hid]),if_pos ⟨g1,g2⟩])) λg2=>?_;refine b8 (λh=>absurd h g1) λ_=>?_;exact b8 (λ_=>h2 g2) λh=>absurd g2 h
   ·refine b8 (λ_=>?_) λh=>absurd g1 h;refine kD (λg3=>bad (by decide) (by unfold mA;rw[if_neg (by simp[hid]),if_neg (by simp[g1]),if_pos ⟨g1,g3⟩])) λg3=>?_;exact b8 (λh=>by rw[g1] at h;cases h) λh=>h1 (by unfold mA;rw[if_neg (by simp[hid]),if_neg (by simp[g1]),if_neg (by simp[g3]),if_neg (by simp[h])])
  refine ixK (λhn=>?_) λi j hj hn=>?_
  ·have hn:cG d y.2.2=none:=hn;rw[oQ];refine eQ (λhid=>bad (by decide) (by unfold mA;rw[if_pos hid])) λhid=>?_;refine tail hid (λh2=>bad (by decide) ?_) λh0=>hok h0;unfold mA;rw[if_neg (by simp[hid]),if_neg (by simp[h2]),if_neg (by simp[h2]),if_pos ⟨h2,by rw[hn];rfl⟩]
  ·have hn:cG d y.2.2=some d.2.1[j]:=hn;rw[oQ];refine eQ (λhid=>bad (by decide) (by unfold mA;rw[if_pos hid])) λhid=>?_;refine tail hid (λh2=>hok ?_) λh0=>hok h0;unfold mA;rw[if_neg (by simp[hid]),if_neg (by simp[h2]),if_neg (by simp[h2]),if_neg (by simp[hn])]
 ·have hn:d.2.1.length<=140737488355328:=hs.n;refine bJ d.2.1.length (λk s=>s=((d.2.1.take k).any (λn=>decide (8<(up d n.1).1.length)),(k:Int),())/\∀ n∈d.2.1.take k,(up d n.1).2=true) ⟨rfl,by simp⟩ ?_;rintro X k s hk ⟨rfl,hall⟩ hX;dsimp only;refine b8 (λhlt=>?_) λhge=>?_
  ·rw[ae] at hlt;have hlt:k<d.2.1.length:=by omega
   rw[bA (r:=bC) hlt];refine aM (s:=[(false,.li .str),(false,.bool)]) (O1 hs d.2.1[k].1) ?_;have ht:d.2.1.take (k+1)=d.2.1.take k++[d.2.1[k]]:=List.take_succ_eq_append_getElem hlt;have hw:i64.wrap ((k:Int)+1)=((k+1:Nat):Int):=aZ _ (by omega) (by omega);refine eQ (λhu=>is ?_) λhu=>?_
   ·unfold fD;rw[if_pos h0,if_pos (show PV d=true from List.any_eq_true.2 ⟨_,ak hlt,by rw[hu];rfl⟩)]
   ·have hall':∀ n∈d.2.1.take (k+1),(up d n.1).2=true:=λn hm=>by
     rw[ht] at hm;rcases List.mem_append.1 hm with h|h
     ·exact hall n h
     ·simp at h;subst h;exact hu
    refine zQ (λhd=>?_) λhd=>?_
    ·refine hX _ hlt ⟨?_,hall'⟩;rw[hw,ht,List.any_append,hd];rfl
    ·refine hX _ hlt ⟨?_,hall'⟩;rw[hw,ht,List.any_append,hd];simp only[ae,List.any_cons,List.any_nil,Bool.or_false,Bool.false_or,Prod.mk.injEq,and_true]
     congr 1
     exact propext ⟨λh=>by omega,λh=>by omega⟩
  ·rw[ae] at hge;have:k=d.2.1.length:=by omega
   subst this;rw[List.take_length] at hall ⊢;have hnu:PV d=false:=by
    rw[Bool.eq_false_iff];intro h;obtain ⟨n,hm,h⟩:=List.any_eq_true.1 h;rw[hall n hm] at h;cases h
   refine zQ (λh=>is ?_) λh=>is ?_
   ·unfold fD;rw[if_pos h0,hnu,if_neg (by simp),if_pos (show TH d=true from h)]
   ·unfold fD;rw[if_pos h0,hnu,if_neg (by simp),if_neg (by rw[show TH d=false from h];simp)]
end Go.Pv
namespace Go.Pv
open Go Go.Proofs IntKind
variable {α:Type}
def qM (a b:α):Bool:=@decide (a=b) (Classical.propDecidable _)
def eP {a b:α}:qM a b=true↔a=b:=by unfold qM;exact @decide_eq_true_iff _ (Classical.propDecidable _)
@[simp] def A8J (a:α):qM a a=true:=eP.2 rfl
def xL {a b:α} (h:¬ a=b):qM a b=false:=by
 cases hc:qM a b with
 | false=>rfl
 | true=>exact absurd (eP.1 hc) h
def BHT {a b:α} (i:Decidable (a=b)):@decide (a=b) i=qM a b:=by
 by_cases h:a=b
 ·rw[eP.2 h];simp[h]
 ·rw[xL h];simp[h]
def ALB (c d:Bool) (r:T):aE c (pPR d=r) (pPR false=r)=(pPR (c&&d)=r):=by cases c<;>simp[aE]
def Z0 (c d:Bool) (r:T):aE (!c) (pPR false=r) (pPR d=r)=(pPR (c&&d)=r):=by cases c<;>simp[aE]
def BLC (x:Bool):Sh.enc p0 x=pPR x:=rfl
def BS (y:Bool) (K:Bool->Prop):aJ [(false,Sy.bool)] (some (Sh.enc p0 y)) K=K y:=oL (s:=p0) rfl y K
variable {R:T->Prop}
def A3P {r:Sy} {l m:List r.den} (hlen:l.length=m.length) (hl:l.length<=2 ^ 47) (test:r.den->r.den->Bool) (ht:∀ x y,test x y=true↔x=y) (hR:R (pPR (qM l m))) :
  a7 (Int×PUnit) (λ(X:Int×PUnit->Prop) (s:Int×PUnit)=>aE (decide (s.1<(↑(List.map r.enc l).length:Int))) (aU r (List.map r.enc l) s.1 λy=>aU r (List.map r.enc m) s.1 λz=>aE (!(test y z)) (R (pPR false)) (X (i64.wrap (s.1+1),()))) (R (pPR true))) (0,()):=by
 refine bJ l.length (λk s=>s=((k:Int),())/\(l=m↔l.drop k=m.drop k)) ⟨rfl,by simp⟩ ?_;rintro X k s hk ⟨rfl,he⟩ hX;dsimp only;by_cases hlt:k<l.length
 ·have hlt2:k<m.length:=by omega
  refine dD (by simp[hlt]) ?_;rw[bA hlt,bA hlt2];rw[List.drop_eq_getElem_cons hlt,List.drop_eq_getElem_cons hlt2,List.cons.injEq] at he;by_cases h1:l[k]=m[k]
  ·rw[(ht _ _).2 h1,Bool.not_true,hU];refine hX _ hlt ⟨by rw[show i64.wrap ((k:Int)+1)=((k+1:Nat):Int) from aZ _ (by omega) (by omega)],?_⟩;rw[he];exact ⟨λh=>h.2,λh=>⟨h1,h⟩⟩
  ·have:test l[k] m[k]=false:=by
    cases hc:test l[k] m[k] with
    | false=>rfl
    | true=>exact absurd ((ht _ _).1 hc) h1
   rw[this,Bool.not_false,fL];rwa[xL λh=>h1 (he.1 h).1] at hR
 ·have:k=l.length:=by omega
  subst this;refine eB (by simp) ?_;rwa[eP.2 (he.2 (by rw[List.drop_length,hlen,List.drop_length]))] at hR
def JQ {r:Sy} {l m:List r.den} (hl:l.length<=2 ^ 47) (test:r.den->r.den->Bool) (ht:∀ x y,test x y=true↔x=y) (hR:R (pPR (qM l m))) :
  aE (!decide ((↑(List.map r.enc l).length:Int)=(↑(List.map r.enc m).length:Int))) (R (pPR false)) (a7 (Int×PUnit) (λ(X:Int×PUnit->Prop) (s:Int×PUnit)=>aE (decide (s.1<(↑(List.map r.enc l).length:Int))) (aU r (List.map r.enc l) s.1 λy=>aU r (List.map r.enc m) s.1 λz=>aE (!(test y z)) (R (pPR false)) (X (i64.wrap (s.1+1),()))) (R (pPR true))) (0,())):=by
 by_cases hlen:l.length=m.length
 ·rw[show (!decide ((↑(List.map r.enc l).length:Int)=(↑(List.map r.enc m).length:Int)))=false by simp[hlen],hU];exact A3P hlen hl test ht hR
 ·rw[show (!decide ((↑(List.map r.enc l).length:Int)=(↑(List.map r.enc m).length:Int)))=true by simp;omega,fL];rwa[xL λh=>hlen (by rw[h])] at hR
def eX (d:aG) (id:iII):Option bE:=d.2.2.2.2.1.find? λs=>decide (s.1=id)
def noPack:bE:=(⟨#[]⟩,⟨#[]⟩,[],0,[])
def rP (x:aG×iII):Option T:=some (Sh.enc [(true,aK),(false,.bool)] (found noPack (eX x.1 x.2)))
def A66:FuncId->Hint:=bP 67 [(2,.inv [.val 6 false (.int .i64),.fix 1])] (λ_=>bH)
def AIG(X0:Int×PUnit×PUnit->Prop)(s1:Int×PUnit×PUnit):Prop:=eZ (bL.rows false [[D.p bF, D.p bF, D.p d6, D.p (pPP 0), D.p d6]]) (bL.rows false [[D.p bF, D.p bF, D.p d6, D.p (pPP 0), D.p d6]]) (X0 (i64.wrap (s1.1+1),(),()))
def BTN:List T:=[T.agg [pPQ ({data:=#[]}),pPQ ({data:=#[]}), T.sl false [],pPP 0,T.sl false []], pPR false]
def R8(a0:aG)(a1:iII)(R:T->Prop):Prop:=eZ (bL.rows false [[D.p bF,D.p bF, D.p d6,D.p (pPP 0), D.p d6]]) (bL.rows false [[D.p bF,D.p bF, D.p d6,D.p (pPP 0), D.p d6]]) (a7 (Int×PUnit×PUnit) (λX0 s1=>aE (decide (s1.1<(↑(IO a0).length:Int))) (aU aK (IO a0) s1.1 λ(y2:bE)=>aE (decide (y2.1=a1)) (aU aK (IO a0) s1.1 λ(y3:bE)=>R (T.cB [aH true aK y3,pPR true])) (AIG X0 s1)) (R (T.cB BTN))) (0,(),()))
abbrev WK:Sh:=[(true,aF),(false,Sy.str)]
def pP:List T->Option T:=gS WK rP
def OY {a0 a1}:pP [aH true aF a0,pPQ a1]=rP (a0,a1):=a8 (s:=WK) rfl (a0,a1) rfl
def A2P:nJ Tryz.prog 67 pP rP (bR WK) R8:=eV (a1:=(true,aF)) (a2:=(false,Sy.str)) (Hs:=A66) (k:=8) (bM _) aV aY (aQ rfl) ⟨_,_,Tryz.func67,rfl⟩ rfl λ_ _ _=>by kernel_rfl
def ZB:aT Tryz.prog 67 pP:=A2P λd id r h hb=>by
 have hl:d.2.2.2.2.1.length<=2 ^ 47:=hb.1.2.2.2.2.1.1;unfold R8 BTN AIG IO d6 bF;rw[cI];refine bJ d.2.2.2.2.1.length (λk s=>s=((k:Int),(),())/\(d.2.2.2.2.1.drop k).find? (λs=>decide (s.1=id))=eX d id) ⟨rfl,rfl⟩ ?_;rintro X k s hk ⟨rfl,hf⟩ hX;simp only[ae,yG,cI];by_cases hlt:k<d.2.2.2.2.1.length
 ·rw[lEE hlt] at hf;simp only[hlt,decide_true,aE,bA (r:=aK) hlt];cases hc:decide (d.2.2.2.2.1[k].1=id) with
  | true =>
   simp only[hc,if_true] at hf;simp only[rP,<-hf] at h;cases h;rfl
  | false =>
   simp only[hc] at hf;refine hX _ hlt ⟨?_,hf⟩;simp only[Prod.mk.injEq,and_true];exact aZ _ (by omega) (by omega)
 ·have:k=d.2.2.2.2.1.length:=by omega
  subst this;simp only[List.drop_length,List.find?_nil] at hf;simp only[rP,<-hf] at h;simp only[hlt,decide_false,aE];cases h;rfl
def AIJ:ABH Tryz.prog 253 1 16:=⟨λR=>by kernel_rfl,λfl R=>by kernel_rfl,λfl a rows R=>by kernel_rfl⟩
def kN:List T->Option T:=gS [(false,.li .str)] (fU .str 16)
def o5 {u0}:kN [T.sl false (List.map (Sy.enc .str) u0)]=fU .str 16 u0:=a8 (s:=[(false,.li .str)]) rfl u0 rfl
def OS:aT Tryz.prog 253 kN:=LI aV aY ⟨_,_,Tryz.func253,rfl⟩ AIJ
def fZ (p:bE):Bool:=mB 16 p.2.2.1.length&&mB 16 p.2.2.2.2.length
def PD (d:aG):Bool:=d.2.2.2.2.1.all fZ
def AL4 (d:aG) (t:T):Option T:=match PD d with
 | true=>some t
 | false=>none
def BDD {d:aG} {t r:T} (h:AL4 d t=some r):PD d=true/\r=t:=by
 unfold AL4 at h;split at h
 ·cases h;exact ⟨by assumption,rfl⟩
 ·cases h
def AL5 {d:aG} (t:T) (h:PD d=true):AL4 d t=some t:=by unfold AL4;rw[h]
def DJ (x:aG×iII):Option T:=AL4 x.1 (Sh.enc [(true,aK),(false,.bool)] (found noPack (eX x.1 x.2)))
def BL2:Env:=Env.of [(253,.pure kN)]
def BMA:FuncId->Hint:=bP 225 [(2,.inv [.val 11 false (.int .i64),.fix 1])] (λ_=>bH)
def A45:bB Tryz.prog BL2:=.cons OS (.nil _)
def AO2(a0:aG)(a1:iII)(R:T->Prop):Prop:=eZ (bL.rows false [[D.p bF,D.p bF, D.p d6,D.p (pPP 0), D.p d6]]) (bL.rows false [[D.p bF,D.p bF, D.p d6,D.p (pPP 0), D.p d6]]) (a7 (Int×PUnit×PUnit) (λX0 s1=>aE (decide (s1.1<(↑(IO a0).length:Int))) (aU aK (IO a0) s1.1 λ(y2:bE)=>aE (decide (y2.1=a1)) (aJ f6 (kN [T.sl false (List.map Sy.str.enc y2.2.2.1)]) λ(y3:List iII)=>aJ f6 (kN [T.sl false (List.map Sy.str.enc y2.2.2.2.2)]) λ(y4:List iII)=>R (T.cB [T.agg [pPQ y2.1,pPQ y2.2.1, T.sl false (GT y3), pPP y2.2.2.2.1, T.sl false (GT y4)], pPR true])) (AIG X0 s1)) (R (T.cB BTN))) (0,(),()))
abbrev ATB:Sh:=[(true,aF),(false,Sy.str)]
def FM:List T->Option T:=gS ATB DJ
def ZO {a0 a1}:FM [aH true aF a0,pPQ a1]=DJ (a0,a1):=a8 (s:=ATB) rfl (a0,a1) rfl
def BJK:nJ Tryz.prog 225 FM DJ (bR ATB) AO2:=eV (a1:=(true,aF)) (a2:=(false,Sy.str)) (Hs:=BMA) (k:=8) A45 aV aY (aQ rfl) ⟨_,_,Tryz.func225,rfl⟩ rfl λ_ _ _=>by kernel_rfl
def AU1:aT Tryz.prog 225 FM:=BJK λd id r h hb=>by
 have hl:d.2.2.2.2.1.length<=2 ^ 47:=hb.1.2.2.2.2.1.1;obtain ⟨hok,rfl⟩:=BDD h;clear h;unfold AO2 BTN AIG GT IO f6 d6 bF;rw[cI];refine bJ d.2.2.2.2.1.length (λk s=>s=((k:Int),(),())/\(d.2.2.2.2.1.drop k).find? (λs=>decide (s.1=id))=eX d id) ⟨rfl,rfl⟩ ?_;rintro X k s hk ⟨rfl,hf⟩ hX;simp only[ae,yG,cI];by_cases hlt:k<d.2.2.2.2.1.length
 ·rw[lEE hlt] at hf;have hp:fZ d.2.2.2.2.1[k]=true:=List.all_eq_true.1 hok _ (ak hlt);simp only[hlt,decide_true,aE,bA (r:=aK) hlt];unfold fZ at hp;simp only[ac] at hp;cases hc:decide (d.2.2.2.2.1[k].1=id) with
  | true =>
   simp only[hc,if_true] at hf;rw[<-hf];refine aM (s:=[(false,.li .str)]) (y:=d.2.2.2.2.1[k].2.2.1) (by rw[o5,fU,jY hp.1];rfl) ?_;refine aM (s:=[(false,.li .str)]) (y:=d.2.2.2.2.1[k].2.2.2.2) (by rw[o5,fU,jY hp.2];rfl) ?_;rfl
  | false =>
   simp only[hc] at hf;refine hX _ hlt ⟨?_,hf⟩;simp only[Prod.mk.injEq,and_true];exact aZ _ (by omega) (by omega)
 ·have:k=d.2.2.2.2.1.length:=by omega
  subst this;simp only[List.drop_length,List.find?_nil] at hf;rw[<-hf];simp only[hlt,decide_false,aE];rfl
def w8 (x:List aN×List aN):Option T:=some (Sh.enc p0 (qM x.1 x.2))
def w9 (x:eM×eM):Option T:=some (Sh.enc p0 (qM x.1 x.2))
def qE (x:bG×bG):Option T:=some (Sh.enc p0 (qM x.1 x.2))
def CA (x:List iII×List iII):Option T:=some (Sh.enc p0 (qM x.1 x.2))
def qD (x:bE×bE):Option T:=some (Sh.enc p0 (qM x.1 x.2))
def A7C:FuncId->Hint:=bP 254 [(4,.inv [.val 5 false (.int .i64)])] (λ_=>bH)
def SM(a0:List aN)(a1:List aN)(R:T->Prop):Prop:=aE (!decide ((↑(i7 a0).length:Int)=(↑(i7 a1).length:Int))) (R d4) (a7 (Int×PUnit) (λX0 s1=>aE (decide (s1.1<(↑(i7 a0).length:Int))) (aU aC (i7 a0) s1.1 λ(y2:aN)=>aU aC (i7 a1) s1.1 λ(y3:aN)=>aE (!(decide (y2.1=y3.1)&&(decide (y2.2=y3.2)&&true))) (R d4) (g9 X0 s1)) (R d7)) (0,()))
abbrev WY:Sh:=[(false,aC.li),(false,aC.li)]
def wB:List T->Option T:=gS WY w8
def AK0 {a0 a1}:wB [T.sl false (List.map aC.enc a0),T.sl false (List.map aC.enc a1)]=w8 (a0,a1):=a8 (s:=WY) rfl (a0,a1) rfl
def A23:nJ Tryz.prog 254 wB w8 (bR WY) SM:=eV (a1:=(false,aC.li)) (a2:=(false,aC.li)) (Hs:=A7C) (k:=8) (bM _) aV aY (aQ rfl) ⟨_,_,Tryz.func254,rfl⟩ rfl λ_ _ _=>by kernel_rfl
def A0V:aT Tryz.prog 254 wB:=A23 λa b r h hb=>by
 cases h;unfold SM i7 g9 d7 d4;refine JQ (r:=aC) (R:=λy=>y=Sh.enc p0 (qM a b)) hb.1.1 _ (λx y=>?_) rfl;simp only[Bool.and_true,ac,ah,Prod.ext_iff]
def A4U:Env:=Env.of [(254,.pure wB)]
def A7D:FuncId->Hint:=bP 99 [(4,.inv [.val 5 false (.int .i64)])] (λ_=>bH)
def AOM:bB Tryz.prog A4U:=.cons A0V (.nil _)
def BT6(a0:eM):List (List T):=List.map aC.li.enc a0.2
def SN(a0:eM)(a1:eM)(R:T->Prop):Prop:=aJ d5 (wB [T.sl false (List.map aC.enc a0.1),T.sl false (List.map aC.enc a1.1)]) λ(y0:Bool)=>aE (!y0) (R d4) (aE (!decide ((↑(BT6 a0).length:Int) = (↑(BT6 a1).length:Int))) (R d4) (a7 (Int×PUnit) (λX1 s2=>aE (decide (s2.1<(↑(BT6 a0).length:Int))) (aU aC.li (BT6 a0) s2.1 λ(y3:List aN)=>aU aC.li (BT6 a1) s2.1 λ(y4:List aN)=>aJ d5 (wB [T.sl false (i7 y3),T.sl false (i7 y4)]) λ(y5:Bool)=>aE (!y5) (R d4) (g9 X1 s2)) (R d7)) (0,())))
abbrev WZ:Sh:=[(true,dG),(true,dG)]
def BD:List T->Option T:=gS WZ w9
def AK1 {a0 a1}:BD [aH true dG a0,aH true dG a1]=w9 (a0,a1):=a8 (s:=WZ) rfl (a0,a1) rfl
def A24:nJ Tryz.prog 99 BD w9 (bR WZ) SN:=eV (a1:=(true,dG)) (a2:=(true,dG)) (Hs:=A7D) (k:=8) AOM aV aY (aQ rfl) ⟨_,_,Tryz.func99,rfl⟩ rfl λ_ _ _=>by kernel_rfl
def A0W:aT Tryz.prog 99 BD:=A24 λa b r h hb=>by
 cases h;unfold SN BT6 i7 g9 d7 d5 d4;have u:=@AK0;simp only[u,w8,BS];by_cases h1:a.1=b.1
 ·rw[eP.2 h1,Bool.not_true,hU];refine JQ (r:=.li aC) (R:=λy=>y=Sh.enc p0 (qM a b)) hb.1.2.1 _ (λx y=>eP) ?_;show T.v (.bool (qM a.2 b.2))=T.v (.bool (qM a b))
  congr 2
  rw[Bool.eq_iff_iff,eP,eP,Prod.ext_iff];exact ⟨λh=>⟨h1,h⟩,λh=>h.2⟩
 ·rw[xL h1,Bool.not_false,fL,xL λh=>h1 (by rw[h])];rfl
def ANY:Env:=Env.of [(99,.pure BD)]
def ABP:bB Tryz.prog ANY:=.cons A0W (.nil _)
def E2(a0:bG)(a1:bG)(R:T->Prop):Prop:=aE (!decide (a0.1=a1.1)) (R d4) (aE (!decide (a0.2.1=a1.2.1)) (R d4) (aE (!decide (a0.2.2.1=a1.2.2.1)) (R d4) (aE (!decide (a0.2.2.2.1=a1.2.2.2.1)) (R d4) (aE (!decide (a0.2.2.2.2.1=a1.2.2.2.2.1)) (R d4) (aE (!decide (a0.2.2.2.2.2.1=a1.2.2.2.2.2.1)) (R d4) (aJ d5 (BD [aH true dG a0.2.2.2.2.2.2.1, aH true dG a1.2.2.2.2.2.2.1]) λ(y0:Bool)=>aE y0 (aE (decide (a0.2.2.2.2.2.2.2.1=a1.2.2.2.2.2.2.2.1)) (aE (decide (a0.2.2.2.2.2.2.2.2.1=a1.2.2.2.2.2.2.2.2.1)) (aE (decide (a0.2.2.2.2.2.2.2.2.2.1=a1.2.2.2.2.2.2.2.2.2.1)) (aE (decide (a0.2.2.2.2.2.2.2.2.2.2.1.1 = a1.2.2.2.2.2.2.2.2.2.2.1.1) && (decide (a0.2.2.2.2.2.2.2.2.2.2.1.2.1 = a1.2.2.2.2.2.2.2.2.2.2.1.2.1) && (decide (a0.2.2.2.2.2.2.2.2.2.2.1.2.2 = a1.2.2.2.2.2.2.2.2.2.2.1.2.2) && true))) (R (pPR (decide (a0.2.2.2.2.2.2.2.2.2.2.2.1.1 = a1.2.2.2.2.2.2.2.2.2.2.2.1.1) && (decide (a0.2.2.2.2.2.2.2.2.2.2.2.1.2.1 = a1.2.2.2.2.2.2.2.2.2.2.2.1.2.1) && (decide (a0.2.2.2.2.2.2.2.2.2.2.2.1.2.2 = a1.2.2.2.2.2.2.2.2.2.2.2.1.2.2) && true)) && (decide (a0.2.2.2.2.2.2.2.2.2.2.2.2 = a1.2.2.2.2.2.2.2.2.2.2.2.2) && true)))) (R d4)) (R d4)) (R d4)) (R d4)) (R d4)))))))
abbrev F4:Sh:=[(true,aS),(true,aS)]
def mO:List T->Option T:=gS F4 qE
def EG {a0 a1}:mO [aH true aS a0,aH true aS a1]=qE (a0,a1):=a8 (s:=F4) rfl (a0,a1) rfl
def AL1:nJ Tryz.prog 37 mO qE (bR F4) E2:=eV (a1:=(true,aS)) (a2:=(true,aS)) (Hs:=c0) (k:=8) ABP aV aY (aQ rfl) ⟨_,_,Tryz.func37,rfl⟩ rfl λ_ _ _=>by kernel_rfl
def OT:aT Tryz.prog 37 mO:=AL1 λa b r h hb=>by
 cases h;unfold E2 d5 d4;simp only[AK1,w9,BS];simp only[BLC,ALB,Z0]
 congr 2
 rw[Bool.eq_iff_iff,eP];simp only[Bool.and_true,ac,ah,eP,Prod.ext_iff,and_assoc]
def BHA:FuncId->Hint:=bP 31 [(4,.inv [.val 5 false (.int .i64)])] (λ_=>bH)
def AB9(a0:List iII)(a1:List iII)(R:T->Prop):Prop:=aE (!decide ((↑(GT a0).length:Int)=(↑(GT a1).length:Int))) (R d4) (a7 (Int×PUnit) (λX0 s1=>aE (decide (s1.1<(↑(GT a0).length:Int))) (aU Sy.str (GT a0) s1.1 λ(y2:iII)=>aU Sy.str (GT a1) s1.1 λ(y3:iII)=>aE (!decide (y2=y3)) (R d4) (g9 X0 s1)) (R d7)) (0,()))
abbrev AFS:Sh:=[(false,Sy.str.li),(false,Sy.str.li)]
def CZ:List T->Option T:=gS AFS CA
def ARI {a0 a1}:CZ [T.sl false (List.map Sy.str.enc a0),T.sl false (List.map Sy.str.enc a1)]=CA (a0,a1):=a8 (s:=AFS) rfl (a0,a1) rfl
def BC3:nJ Tryz.prog 31 CZ CA (bR AFS) AB9:=eV (a1:=(false,Sy.str.li)) (a2:=(false,Sy.str.li)) (Hs:=BHA) (k:=8) (bM _) aV aY (aQ rfl) ⟨_,_,Tryz.func31,rfl⟩ rfl λ_ _ _=>by kernel_rfl
def A9F:aT Tryz.prog 31 CZ:=BC3 λa b r h hb=>by
 cases h;unfold AB9 GT g9 d7 d4;exact JQ (r:=.str) (R:=λy=>y=Sh.enc p0 (qM a b)) hb.1.1 _ (λx y=>decide_eq_true_iff) rfl
def ANX:Env:=Env.of [(31,.pure CZ)]
def ABO:bB Tryz.prog ANX:=.cons A9F (.nil _)
def E1(a0:bE)(a1:bE)(R:T->Prop):Prop:=aE (decide (a0.1=a1.1)) (aE (decide (a0.2.1=a1.2.1)) (aE (decide (a0.2.2.2.1=a1.2.2.2.1)) (aJ d5 (CZ [T.sl false (List.map Sy.str.enc a0.2.2.1), T.sl false (List.map Sy.str.enc a1.2.2.1)]) λ(y0:Bool)=>aE y0 (aJ d5 (CZ [T.sl false (List.map Sy.str.enc a0.2.2.2.2), T.sl false (List.map Sy.str.enc a1.2.2.2.2)]) λ(y1:Bool)=>R (pPR y1)) (R d4)) (R d4)) (R d4)) (R d4)
abbrev F3:Sh:=[(true,aK),(true,aK)]
def sF:List T->Option T:=gS F3 qD
def YM {a0 a1}:sF [aH true aK a0,aH true aK a1]=qD (a0,a1):=a8 (s:=F3) rfl (a0,a1) rfl
def AL0:nJ Tryz.prog 38 sF qD (bR F3) E1:=eV (a1:=(true,aK)) (a2:=(true,aK)) (Hs:=c0) (k:=8) ABO aV aY (aQ rfl) ⟨_,_,Tryz.func38,rfl⟩ rfl λ_ _ _=>by kernel_rfl
def AJA:aT Tryz.prog 38 sF:=AL0 λa b r h hb=>by
 cases h;unfold E1 d5 d4;have u:=@ARI;simp only[u,CA,BS];simp only[BLC,ALB,Z0]
 congr 2
 rw[Bool.eq_iff_iff,eP];simp only[Bool.and_true,ac,ah,eP,Prod.ext_iff];exact ⟨λ⟨h1,h2,h3,h4,h5⟩=>⟨h1,h2,h4,h3,h5⟩,λ⟨h1,h2,h4,h3,h5⟩=>⟨h1,h2,h3,h4,h5⟩⟩
end Go.Pv
namespace Go.Pv
open Go Go.Proofs IntKind
def kW (d:aG) (s:gE):Int:=if kH s.1=false\/kH s.2.1=false\/kH s.2.2.1=false then 6 else if s.2.1=s.2.2.1 then 2 else if ¬ s.2.2.2.1=1/\¬ s.2.2.2.1=2 then 10 else if s.2.2.2.2.1<1\/32768<s.2.2.2.2.1\/s.2.2.2.2.2<1\/3<s.2.2.2.2.2 then 9 else if (partOf d s.2.1).isNone=true\/(partOf d s.2.2.1).isNone=true then 8 else 0
def rU (a0:aG) (m1:List aI) (m2:List aI) (m3:List aI) (m4:List aI):List T:=[XQ a0 m1 m2 m3 m4]
def RL:Env:=Env.of [(112,.pure fP)]
def AHU:FuncId->Hint:=bP 45 [(2,.inv [.val 17 false (.int .i64)])] (λ_=>bH)
def AN1:bB Tryz.prog RL:=.cons QL (.nil _)
def v6(R:T->Prop):Prop:=R (pPP 9)
def ACM(y2:gE)(R:T->Prop):Prop:=aE (decide (y2.2.2.2.2.1<1)) (v6 R) (aE (decide (32768<y2.2.2.2.2.1)) (v6 R) (aE (decide (y2.2.2.2.2.2<1)) (v6 R) (aE (decide (3<y2.2.2.2.2.2)) (v6 R) (t7 R))))
def f9(y2:gE)(R:T->Prop):Prop:=aJ d5 (fP [pPQ y2.1]) λ(y15:Bool)=>aE (!y15) (BTQ R) (aJ d5 (fP [pPQ y2.2.1]) λ(y16:Bool)=>aE (!y16) (BTQ R) (aJ d5 (fP [pPQ y2.2.2.1]) λ(y17:Bool)=>aE (!y17) (BTQ R) (aE (decide (y2.2.1=y2.2.2.1)) (BTM R) (aE (!decide (y2.2.2.2.1=1)) (aE (!decide (y2.2.2.2.1=2)) (R BTO) (ACM y2 R)) (ACM y2 R)))))
def BTW(y2:gE)(R:T->Prop)(X0:Int×PUnit->Prop)(s1:Int×PUnit):Prop:=aE (decide (y2.2.2.2.2.1<1)) (v6 R) (aE (decide (32768<y2.2.2.2.2.1)) (v6 R) (aE (decide (y2.2.2.2.2.2<1)) (v6 R) (aE (decide (3<y2.2.2.2.2.2)) (v6 R) (g9 X0 s1))))
def RR(a0:aG)(m1:List aI)(m2:List aI)(m3:List aI)(m4:List aI)(R:T->Prop):Prop:=a7 (Int×PUnit) (λX0 s1=>aE (decide (s1.1<(↑(LE a0).length:Int))) (aU bI (LE a0) s1.1 λ(y2:gE)=>jC TypeDesc.string (Value.string y2.2.1) (s0 (bQ m2)) false d3 (jC TypeDesc.string (Value.string y2.2.2.1) (s0 (bQ m2)) false d3 (f9 y2 R) λ(i13:Nat) (y14:Int)=>f9 y2 R) λ(i3:Nat) (y4:Int)=>jC TypeDesc.string (Value.string y2.2.2.1) (s0 (bQ m2)) false d3 (f9 y2 R) λ(i5:Nat) (y6:Int)=>aJ d5 (fP [pPQ y2.1]) λ(y7:Bool)=>aE (!y7) (BTQ R) (aJ d5 (fP [pPQ y2.2.1]) λ(y8:Bool)=>aE (!y8) (BTQ R) (aJ d5 (fP [pPQ y2.2.2.1]) λ(y9:Bool)=>aE (!y9) (BTQ R) (aE (decide (y2.2.1=y2.2.2.1)) (BTM R) (aE (!decide (y2.2.2.2.1=1)) (aE (!decide (y2.2.2.2.1=2)) (R BTO) (BTW y2 R X0 s1)) (BTW y2 R X0 s1)))))) (BTV R)) (0,())
def AHN ( a0 m1 m2 m3 m4 R):fE cA Tryz.prog RL AHU 8 45 (rU a0 m1 m2 m3 m4) R=RR a0 m1 m2 m3 m4 R:=by kernel_rfl
def ABC (x y:aG×MP×MP×MP×MP) (h:rU x.1 x.2.1 x.2.2.1 x.2.2.2.1 x.2.2.2.2=rU y.1 y.2.1 y.2.2.1 y.2.2.2.1 y.2.2.2.2):x=y:=sY (List.cons.inj h).1
def N2 (x:aG×MP×MP×MP×MP):Option T:=zJ x (T.v (Value.int .i64 (bT (kW x.1) x.1.2.2.2.1)))
def AN:List T->Option (T):=gA (λ(x:aG×List aI×List aI×List aI×List aI)=>rU x.1 x.2.1 x.2.2.1 x.2.2.2.1 x.2.2.2.2) N2
def AJJ (a0:aG) (m1:List aI) (m2:List aI) (m3:List aI) (m4:List aI):AN (rU a0 m1 m2 m3 m4)=N2 (a0,m1,m2,m3,m4):=gF (A:=(λ(x:aG×List aI×List aI×List aI×List aI)=>rU x.1 x.2.1 x.2.2.1 x.2.2.2.1 x.2.2.2.2)) ABC (a0,m1,m2,m3,m4)
def A17 (h:∀ (a0:aG) (m1:List aI) (m2:List aI) (m3:List aI) (m4:List aI) (r:T),N2 (a0,m1,m2,m3,m4)=some r->(∀ t∈rU a0 m1 m2 m3 m4,Bd t)->RR a0 m1 m2 m3 m4 (λy=>y=r)):aT Tryz.prog 45 AN :=
 dA (E:=RL) (Hs:=AHU) AN1 aV aY (aQ rfl) 8 ⟨_,_,Tryz.func45,rfl⟩ λx r h1 h2=>by
  rw[AHN];exact h x.1 x.2.1 x.2.2.1 x.2.2.2.1 x.2.2.2.2 r h1 h2
def AZ4:aT Tryz.prog 45 AN:=A17 λd m1 m2 m3 m4 r h hb=>by
 obtain ⟨hx,hs,rfl⟩:=pY h;simp only[Prod.mk.injEq,true_and] at hx;obtain ⟨rfl,rfl,rfl,rfl⟩:=hx;replace hs:oJ d:=hs;clear h;unfold RR BTW BTV g9 f9 BTQ BTO BTM ACM v6 t7 LE d5 d3;refine gX (r:=bI) (kW d) hs.s (λX s y hy hok hbad=>?_) λh0=>?_
 ·have bad:∀ {n:Int},n≠0->kW d y=n->pPP n=pPP (bT (kW d) d.2.2.2.1):=λhn h=>by
   rw[hbad (by rw[h];exact hn),h]
  clear hbad hb
  repeat' first
   | refine ixK (λhn=>?_) (λi j hj hn=>?_)
   | rw[oQ]
   | refine kD (λh=>?_) (λh=>?_)
   | refine b8 (λh=>?_) (λh=>?_)
   | refine eQ (λh=>?_) (λh=>?_)
  all_goals first
   | (exfalso;omega)
   | (refine bad (by decide) ?_;clear bad hok;unfold kW;simp[*,partOf,eX];done)
   | (refine hok ?_;clear bad hok;unfold kW;simp[*,partOf,eX];done)
 ·show _=pPP (bT (kW d) d.2.2.2.1);rw[h0]
def tG (a0:aG) (m1:List aI) (m2:List aI) (m3:List aI) (m4:List aI) (a5:iII):List T:=[XQ a0 m1 m2 m3 m4,pPQ a5]
def ABX(a0:aG)(m1:List aI)(m2:List aI)(m3:List aI)(m4:List aI)(a5:iII)(R:T->Prop):Prop:=jC TypeDesc.string (Value.string a5) (s0 (bQ m1)) false d3 (R d4) λ(i0:Nat) (y1:Int)=>aU bC (GE a0) y1 λ(y2:eH)=>R (pPR (decide (y2.2.1=1)))
def AOY ( a0 m1 m2 m3 m4 a5 R):fE cA Tryz.prog oU c0 8 116 (tG a0 m1 m2 m3 m4 a5) R=ABX a0 m1 m2 m3 m4 a5 R:=by kernel_rfl
def lS (d:aG) (id:iII):Bool:=match cG d id with
 | some n=>decide (n.2.1=1)
 | none=>false
def AGY (x y:aG×MP×MP×MP×MP×iII) (h:tG x.1 x.2.1 x.2.2.1 x.2.2.2.1 x.2.2.2.2.1 x.2.2.2.2.2=tG y.1 y.2.1 y.2.2.1 y.2.2.2.1 y.2.2.2.2.1 y.2.2.2.2.2):x=y:=GG x y h
def XF (x:aG×MP×MP×MP×MP×iII):Option T:=zJ (x.1,x.2.1,x.2.2.1,x.2.2.2.1,x.2.2.2.2.1) (pPR (lS x.1 x.2.2.2.2.2))
def iQ:List T->Option (T):=gA (λ(x:aG×List aI×List aI×List aI×List aI×iII)=>tG x.1 x.2.1 x.2.2.1 x.2.2.2.1 x.2.2.2.2.1 x.2.2.2.2.2) XF
def AQ2 (a0:aG) (m1:List aI) (m2:List aI) (m3:List aI) (m4:List aI) (a5:iII):iQ (tG a0 m1 m2 m3 m4 a5)=XF (a0,m1,m2,m3,m4,a5):=gF (A:=(λ(x:aG×List aI×List aI×List aI×List aI×iII)=>tG x.1 x.2.1 x.2.2.1 x.2.2.2.1 x.2.2.2.2.1 x.2.2.2.2.2)) AGY (a0,m1,m2,m3,m4,a5)
def BCI (h:∀ (a0:aG) (m1:List aI) (m2:List aI) (m3:List aI) (m4:List aI) (a5:iII) (r:T),XF (a0,m1,m2,m3,m4,a5)=some r->(∀ t∈tG a0 m1 m2 m3 m4 a5,Bd t)->ABX a0 m1 m2 m3 m4 a5 (λy=>y=r)):aT Tryz.prog 116 iQ :=
 dA (E:=oU) (Hs:=c0) (bM _) aV aY (aQ rfl) 8 ⟨_,_,Tryz.func116,rfl⟩ λx r h1 h2=>by
  rw[AOY];exact h x.1 x.2.1 x.2.2.1 x.2.2.2.1 x.2.2.2.2.1 x.2.2.2.2.2 r h1 h2
def AI2:aT Tryz.prog 116 iQ:=BCI λd m1 m2 m3 m4 id0 r h hb=>by
 obtain ⟨hx,hs,rfl⟩:=pY h;simp only[Prod.mk.injEq,true_and] at hx;obtain ⟨rfl,rfl,rfl,rfl⟩:=hx;replace hs:oJ d:=hs;clear h;unfold ABX GE d4 d3;refine ixK (λhn=>?_) λi j hj hn=>?_
 ·have hn:cG d id0=none:=hn;show _=pPR (lS d id0);unfold lS;rw[hn]
 ·have hn:cG d id0=some d.2.1[j]:=hn;rw[bA (r:=bC) hj];show _=pPR (lS d id0);unfold lS;rw[hn]
def UO {d:aG} (hs:oJ d) (id:iII):iQ (tG d (jR (ids d.2.1)) (jR (ids d.2.2.1)) (jR (ids d.2.2.2.1)) (jR (ids d.2.2.2.2.1)) id)=some (Sh.enc [(false,.bool)] (lS d id)):=by
 rw[AQ2];exact pZ hs _
def kS (d:aG) (x:cP):Int:=if x.1<1\/3<x.1 then 10 else if x.2.2=x.2.1 then 2 else if lS d x.2.1=false then 8 else if (x.1=1/\¬ x.2.2 = { data:=#[] }/\lS d x.2.2=false)\/(x.1=2/\lS d x.2.2=false)\/(x.1=3/\(eX d x.2.2).isNone=true) then 8 else 0
def rS (a0:aG) (m1:List aI) (m2:List aI) (m3:List aI) (m4:List aI):List T:=[XQ a0 m1 m2 m3 m4]
def RI:Env:=Env.of [(116,.pure iQ)]
def AHS:FuncId->Hint:=bP 47 [(2,.inv [.val 15 false (.int .i64)])] (λ_=>bH)
def ANZ:bB Tryz.prog RI:=.cons AI2 (.nil _)
def AC(a0:aG)(m1:List aI)(m2:List aI)(m3:List aI)(m4:List aI)(y2:cP):List T:=[T.ref [T.ref (f8 a0), T.mp (bQ m1),T.mp (bQ m2),T.mp (bQ m3), T.mp (bQ m4)], pPQ y2.2.2]
def BTS(y2:cP)(X0:Int×PUnit->Prop)(s1:Int×PUnit):Prop:=aE (decide (y2.1=3)) (g9 X0 s1) (g9 X0 s1)
def BT3(y2:cP)(R:T->Prop)(X0:Int×PUnit->Prop)(s1:Int×PUnit):Prop:=aE (decide (y2.1=3)) (t7 R) (g9 X0 s1)
def RP(a0:aG)(m1:List aI)(m2:List aI)(m3:List aI)(m4:List aI)(R:T->Prop):Prop:=a7 (Int×PUnit) (λX0 s1=>aE (decide (s1.1<(↑(WF a0).length:Int))) (aU a6 (WF a0) s1.1 λ(y2:cP)=>jC TypeDesc.string (Value.string y2.2.2) (s0 (bQ m4)) false d3 (aE (decide (y2.1<1)) (R BTO) (aE (decide (3<y2.1)) (R BTO) (aE (decide (y2.2.2=y2.2.1)) (BTM R) (aJ d5 (iQ [T.ref [T.ref (i8 a0), T.mp (bQ m1),T.mp (bQ m2),T.mp (bQ m3), T.mp (bQ m4)], pPQ y2.2.1]) λ(y10:Bool)=>aE (!y10) (t7 R) (aE (decide (y2.1=1)) (aE (!decide (y2.2.2 = {data:=#[]})) (aJ d5 (iQ (AC a0 m1 m2 m3 m4 y2)) λ(y11:Bool)=>aE (!y11) (t7 R) (aE (decide (y2.1=2)) (aJ d5 (iQ [T.ref [T.ref (f8 a0), T.mp (bQ m1),T.mp (bQ m2), T.mp (bQ m3),T.mp (bQ m4)], pPQ y2.2.2]) λ(y12:Bool)=>aE (!y12) (t7 R) (BT3 y2 R X0 s1)) (BT3 y2 R X0 s1))) (aE (decide (y2.1=2)) (aJ d5 (iQ (AC a0 m1 m2 m3 m4 y2)) λ(y13:Bool)=>aE (!y13) (t7 R) (BT3 y2 R X0 s1)) (BT3 y2 R X0 s1))) (aE (decide (y2.1=2)) (aJ d5 (iQ (AC a0 m1 m2 m3 m4 y2)) λ(y14:Bool)=>aE (!y14) (t7 R) (BT3 y2 R X0 s1)) (BT3 y2 R X0 s1))))))) λ(i3:Nat) (y4:Int)=>aE (decide (y2.1<1)) (R BTO) (aE (decide (3<y2.1)) (R BTO) (aE (decide (y2.2.2=y2.2.1)) (BTM R) (aJ d5 (iQ [T.ref [T.ref (i8 a0), T.mp (bQ m1),T.mp (bQ m2),T.mp (bQ m3), T.mp (bQ m4)], pPQ y2.2.1]) λ(y5:Bool)=>aE (!y5) (t7 R) (aE (decide (y2.1=1)) (aE (!decide (y2.2.2 = {data:=#[]})) (aJ d5 (iQ (AC a0 m1 m2 m3 m4 y2)) λ(y6:Bool)=>aE (!y6) (t7 R) (aE (decide (y2.1=2)) (aJ d5 (iQ [T.ref [T.ref (f8 a0), T.mp (bQ m1),T.mp (bQ m2), T.mp (bQ m3),T.mp (bQ m4)], pPQ y2.2.2]) λ(y7:Bool)=>aE (!y7) (t7 R) (BTS y2 X0 s1)) (BTS y2 X0 s1))) (aE (decide (y2.1=2)) (aJ d5 (iQ (AC a0 m1 m2 m3 m4 y2)) λ(y8:Bool)=>aE (!y8) (t7 R) (BTS y2 X0 s1)) (BTS y2 X0 s1))) (aE (decide (y2.1=2)) (aJ d5 (iQ (AC a0 m1 m2 m3 m4 y2)) λ(y9:Bool)=>aE (!y9) (t7 R) (BTS y2 X0 s1)) (BTS y2 X0 s1))))))) (BTV R)) (0,())
def AHL ( a0 m1 m2 m3 m4 R):fE cA Tryz.prog RI AHS 8 47 (rS a0 m1 m2 m3 m4) R=RP a0 m1 m2 m3 m4 R:=by kernel_rfl
def ABA (x y:aG×MP×MP×MP×MP) (h:rS x.1 x.2.1 x.2.2.1 x.2.2.2.1 x.2.2.2.2=rS y.1 y.2.1 y.2.2.1 y.2.2.2.1 y.2.2.2.2):x=y:=sY (List.cons.inj h).1
def N0 (x:aG×MP×MP×MP×MP):Option T:=zJ x (T.v (Value.int .i64 (bT (kS x.1) x.1.2.2.2.2.2)))
def AL:List T->Option (T):=gA (λ(x:aG×List aI×List aI×List aI×List aI)=>rS x.1 x.2.1 x.2.2.1 x.2.2.2.1 x.2.2.2.2) N0
def AJH (a0:aG) (m1:List aI) (m2:List aI) (m3:List aI) (m4:List aI):AL (rS a0 m1 m2 m3 m4)=N0 (a0,m1,m2,m3,m4):=gF (A:=(λ(x:aG×List aI×List aI×List aI×List aI)=>rS x.1 x.2.1 x.2.2.1 x.2.2.2.1 x.2.2.2.2)) ABA (a0,m1,m2,m3,m4)
def A15 (h:∀ (a0:aG) (m1:List aI) (m2:List aI) (m3:List aI) (m4:List aI) (r:T),N0 (a0,m1,m2,m3,m4)=some r->(∀ t∈rS a0 m1 m2 m3 m4,Bd t)->RP a0 m1 m2 m3 m4 (λy=>y=r)):aT Tryz.prog 47 AL :=
 dA (E:=RI) (Hs:=AHS) ANZ aV aY (aQ rfl) 8 ⟨_,_,Tryz.func47,rfl⟩ λx r h1 h2=>by
  rw[AHL];exact h x.1 x.2.1 x.2.2.1 x.2.2.2.1 x.2.2.2.2 r h1 h2
def AZ2:aT Tryz.prog 47 AL:=A15 λd m1 m2 m3 m4 r h hb=>by
 obtain ⟨hx,hs,rfl⟩:=pY h;simp only[Prod.mk.injEq,true_and] at hx;obtain ⟨rfl,rfl,rfl,rfl⟩:=hx;replace hs:oJ d:=hs;clear h;unfold RP BT3 BTS BTV AC i8 g9 BTO BTM t7 f8 WF LT LE IO GE d5 d3;refine gX (r:=a6) (kS d) hs.r (λX s y hy hok hbad=>?_) λh0=>?_
 ·have bad:∀ {n:Int},n≠0->kS d y=n->pPP n=pPP (bT (kS d) d.2.2.2.2.2):=λhn h=>by
   rw[hbad (by rw[h];exact hn),h]
  clear hbad hb
  repeat' first
   | refine ixK (λhn=>?_) (λi j hj hn=>?_)
   | rw[oQ]
   | refine aM (s:=[(false,.bool)]) (UO hs _) ?_
   | refine kD (λh=>?_) (λh=>?_)
   | refine b8 (λh=>?_) (λh=>?_)
   | refine eQ (λh=>?_) (λh=>?_)
  all_goals first
   | (exfalso;omega)
   | (refine bad (by decide) ?_;clear bad hok;unfold kS;simp[*,partOf,eX];done)
   | (refine hok ?_;clear bad hok;unfold kS;simp[*,partOf,eX];done)
   | (refine hok ?_;clear bad hok hs hy;unfold kS;simp_all[partOf,eX];done)
 ·show _=pPP (bT (kS d) d.2.2.2.2.2);rw[h0]
end Go.Pv
namespace Go.Pv
open Go Go.Proofs IntKind
def BL7:FuncId->Hint:=bP 271 [(2,.inv [.val 9 false (.int .i64)])] (λ_=>bH)
def AOW(a0:Int)(a1:List aN)(R:T->Prop):Prop:=a7 (Int×PUnit) (λX0 s1=>aE (decide (s1.1<(↑(i7 a1).length:Int))) (aU aC (i7 a1) s1.1 λ(y2:aN)=>aE (decide (y2.1<0)) (v6 R) (aE (decide (a0<=y2.1)) (v6 R) (aE (decide (y2.2<0)) (v6 R) (aE (decide (a0<=y2.2)) (v6 R) (aE (decide (y2.1=y2.2)) (BTM R) (g9 X0 s1)))))) (BTV R)) (0,())
abbrev AS7:Sh:=[(false,(Sy.int IntKind.i64)),(false,aC.li)]
def pN (n:Int) (x:aN):Int:=if x.1<0\/n<=x.1\/x.2<0\/n<=x.2 then 9 else if x.1=x.2 then 2 else 0
def Q0 (x:Int×List aN):Option T:=oI x.2 (T.v (Value.int .i64 (bT (pN x.1) x.2)))
def UL:List T->Option T:=gS AS7 Q0
def A1B {a0 a1}:UL [pPP a0,T.sl false (List.map aC.enc a1)]=Q0 (a0,a1):=a8 (s:=AS7) rfl (a0,a1) rfl
def BJF:nJ Tryz.prog 271 UL Q0 (bR AS7) AOW:=eV (a1:=(false,(Sy.int IntKind.i64))) (a2:=(false,aC.li)) (Hs:=BL7) (k:=8) (bM _) aV aY (aQ rfl) ⟨_,_,Tryz.func271,rfl⟩ rfl λ_ _ _=>by kernel_rfl
def BH4:aT Tryz.prog 271 UL:=BJF λn l r h hb=>by
 obtain ⟨hl,rfl⟩:=iR h;clear h;unfold AOW BTV i7 g9 BTM v6;refine gX (r:=aC) (pN n) hl (λX s y hy hok hbad=>?_) λh0=>?_
 ·have bad:∀ {m:Int},m≠0->pN n y=m->pPP m=pPP (bT (pN n) l):=λhn h=>by
   rw[hbad (by rw[h];exact hn),h]
  clear hbad hb
  repeat' first
   | refine kD (λh=>?_) (λh=>?_)
   | refine b8 (λh=>?_) (λh=>?_)
  all_goals first
   | (exfalso;omega)
   | (refine bad (by decide) ?_;clear bad hok;unfold pN;first|(rw[if_pos (by omega)];done)|(rw[if_neg (by omega),if_pos (by omega)];done))
   | (refine hok ?_;clear bad hok;unfold pN;rw[if_neg (by omega),if_neg (by omega)];done)
 ·show _=pPP (bT (pN n) l);rw[h0]
def ABI:Env:=Env.of [(271,.pure UL)]
def AUG:FuncId->Hint:=bP 118 [(8,.inv [.arr 0 1 (.int .i64),.val 31 false (.int .i64)]),(14,.inv [.arr 0 1 (.int .i64),.own 10 1 (.int .i64),.arr 2 1 .bool]),(16,.inv [.val 52 false (.int .i64),.fix 0,.fix 2,.fix 3]),(22,.inv [.arr 0 1 (.int .i64),.val 75 false (.int .i64)])] (λ_=>bH)
def AYC:bB Tryz.prog ABI:=.cons BH4 (.nil _)
def d8:Sh:=[(false,Sy.int IntKind.i64)]
def M2(s14:List Int×List Int×List Bool×PUnit):List (List T):=List.map Sy.bool.enc s14.2.2.1
def UV(s3:List Int×Int×PUnit):List (List T):=List.map d3.enc s3.1
def BTP(s14:List Int×List Int×List Bool×PUnit):List (List T):=List.map d3.enc s14.2.1
def BT1(s14:List Int×List Int×List Bool×PUnit):List (List T):=List.map d3.enc s14.1
def BT5(R:T->Prop):Prop:=bO (pPP 9).flat (R (T.cB [T.sl false [],pPP 9]))
def ABZ(a0:Int)(a1:List aN)(R:T->Prop):Prop:=aE (decide (a0<0)) (BT5 R) (aE (decide (256<a0)) (BT5 R) (aJ d8 (UL [pPP a0,T.sl false (i7 a1)]) λ(y0:Int)=>aE (!decide (y0=0)) (bO (pPP y0).flat (R (T.cB [T.sl false [],pPP y0]))) (bO ((decide (a0=a0)||decide (a0=0))&&decide (0<=a0)&&decide (a0*(↑8:Int)<=140737488355328) && decide (a0<=140737488355328)) (cD d3 (List.replicate (Int.toNat a0) [pPP 0]) λ(y1:List Int)=>a7 (List Int×Int×PUnit) (λX2 s3=>aE (decide (s3.2.1<(↑(i7 a1).length:Int))) (aU aC (i7 a1) s3.2.1 λ(y4:aN)=>aU d3 (UV s3) y4.2 λ(y5:Int)=>kU d3 (UV s3) (Int.toNat y4.2) 0 λ(y6:Int)=>aU d3 (UV s3) y4.2 λ(y7:Int)=>D6 (UV s3) (Int.toNat y4.2) λ(y8:List T)=>bO (decide (1<=y8.length)) (cD d3 ((UV s3).set (Int.toNat y4.2) (b6 y8 0 [pPP (i64.wrap (y6+1))])) λ(y9:List Int)=>X2 (y9,i64.wrap (s3.2.1+1),()))) (bO ((decide (0=a0)||true)&&decide (0<=a0)&&decide (a0*(↑8:Int)<=140737488355328) && decide (a0<=140737488355328)) (bO ((decide (a0=a0)||decide (a0=0))&&decide (0<=a0) && decide (a0*(↑1:Int)<=140737488355328) && decide (a0<=140737488355328)) (cD d3 (UV s3) λ(y10:List Int)=>cD d3 [] λ(y11:List Int)=>cD Sy.bool (List.replicate (Int.toNat a0) [pPR false]) λ(y12:List Bool)=>a7 (List Int×List Int×List Bool×PUnit) (λX13 s14=>aE (decide ((↑(BTP s14).length:Int)<a0)) (eZ (bL.arr false 1 (BT1 s14)) (bL.arr false 1 (BT1 s14)) (eZ (bL.arr false 1 (M2 s14)) (bL.arr false 1 (M2 s14)) (eZ (bL.arr false 1 (BTP s14)) (bL.arr false 1 (BTP s14)) (a7 (Int×PUnit×PUnit×PUnit×PUnit) (λX15 s16=>aE (decide (s16.1<a0)) (aU Sy.bool (M2 s14) s16.1 λ(y17:Bool)=>kU Sy.bool (M2 s14) (Int.toNat s16.1) 0 λ(y18:Bool)=>aE y18 (eZ (bL.arr false 1 (BT1 s14)) (bL.arr false 1 (BT1 s14)) (eZ (bL.arr false 1 (M2 s14)) (bL.arr false 1 (M2 s14)) (eZ (bL.arr false 1 (BTP s14)) (bL.arr false 1 (BTP s14)) (X15 (i64.wrap (s16.1+1),(),(),(),()))))) (aU d3 (BT1 s14) s16.1 λ(y19:Int)=>kU d3 (BT1 s14) (Int.toNat s16.1) 0 λ(y20:Int)=>aE (decide (0<y20)) (eZ (bL.arr false 1 (BT1 s14)) (bL.arr false 1 (BT1 s14)) (eZ (bL.arr false 1 (M2 s14)) (bL.arr false 1 (M2 s14)) (eZ (bL.arr false 1 (BTP s14)) (bL.arr false 1 (BTP s14)) (X15 (i64.wrap (s16.1+1),(),(),(), ()))))) (aU Sy.bool (M2 s14) s16.1 λ(y21:Bool)=>D6 (M2 s14) (Int.toNat s16.1) λ(y22:List T)=>bO (decide (1<=y22.length)) (bO (decide (((BTP s14).length + 1) * 8 <= 140737488355328) && decide ((BTP s14).length + 1 <= 140737488355328)) (cD d3 (BT1 s14) λ(y23:List Int)=>a7 (List Int×Int×PUnit) (λX24 s25=>aE (decide (s25.2.1 < (↑(i7 a1).length : Int))) (aU aC (i7 a1) s25.2.1 λ(y26:aN)=>aE (decide (y26.1=s16.1)) (aU d3 (UV s25) y26.2 λ(y27:Int)=>kU d3 (UV s25) (Int.toNat y26.2) 0 λ(y28:Int)=>aU d3 (UV s25) y26.2 λ(y29:Int)=>D6 (UV s25) (Int.toNat y26.2) λ(y30:List T)=>bO (decide (1<=y30.length)) (cD d3 ((UV s25).set (Int.toNat y26.2) (b6 y30 0 [pPP (i64.wrap (y28-1))])) λ(y31:List Int)=>X24 (y31, i64.wrap (s25.2.1+1), ()))) (cD d3 (UV s25) λ(y32:List Int)=>X24 (y32, i64.wrap (s25.2.1+1), ()))) (cD d3 (UV s25) λ(y33:List Int)=>cD d3 (List.map d3.enc s14.2.1 ++ [[pPP s16.1]]) λ(y34:List Int)=>cD Sy.bool ((M2 s14).set (Int.toNat s16.1) (b6 y22 0 [pPR true])) λ(y35:List Bool)=>X13 (y33,y34,y35,()))) (y23,0,())))))) (bO (pPP 20).flat (R (T.cB [T.sl false [], pPP 20])))) (0,(),(),(),()))))) (bO ((BTP s14).all λ(r:List T)=>r.all T.flat) (bO (pPP 0).flat (R (T.cB [T.sl false (BTP s14), pPP 0]))))) (y10,y11,y12,()))))) (y1,0,())))))
def AO1 ( a0 a1 R):uU cA Tryz.prog ABI AUG 8 118 [aH false (Sy.int IntKind.i64) a0,aH false aC.li a1] R=ABZ a0 a1 R:=by kernel_rfl
abbrev QW:Sh:=[(false,(Sy.int IntKind.i64)),(false,aC.li)]
abbrev C7:Sh:=[(false,(Sy.int IntKind.i64).li),(false,Sy.int IntKind.i64)]
def TF (b:List Int) (e:aN):List Int:=b.set e.2.toNat (i64.wrap (b.getD e.2.toNat 0+1))
def TG (v:Int) (b:List Int) (e:aN):List Int:=if e.1=v then b.set e.2.toNat (i64.wrap (b.getD e.2.toNat 0-1)) else b
def EE (b:List Int) (t:List Bool) (k:Nat):Bool:=!t.getD k false&&decide (b.getD k 0<=0)
def yI (l:List aN) (n:Nat):Nat->List Int->List Int->List Bool->List Int×Int
 | 0,_,o,_=>(o,0)
 | f+1,b,o,t=>match (List.range n).find? (EE b t) with
  | none=>([],20)
  | some v=>yI l n f (l.foldl (TG v) b) (o++[(v:Int)]) (t.set v true)
def eR (n:Int) (l:List aN):List Int×Int :=
 if n<0\/256<n then ([],9) else if bT (pN n) l=0 then yI l n.toNat n.toNat (l.foldl TF (List.replicate n.toNat 0)) [] (List.replicate n.toNat false) else ([],bT (pN n) l)
def AIL (b:List Int) (e:aN):(TF b e).length=b.length:=by unfold TF;rw[List.length_set]
def AIP (v:Int) (b:List Int) (e:aN):(TG v b e).length=b.length:=by unfold TG;split<;>simp
def UA {α β:Type} {f:List β->α->List β} (hf:∀ b e,(f b e).length=b.length):∀ (l:List α) (b:List β),(l.foldl f b).length=b.length
 | [],_=>rfl
 | e::l,b=>(UA hf l (f b e)).trans (hf b e)
def r5 {α:Type} {f:α->Int}:∀ {l:List α},bT f l=0->∀ a∈l,f a=0
 | [],_,_,h=>by cases h
 | b::l,h,a,ha=>by
  unfold bT at h;split at h
  ·rename_i hb;rcases List.mem_cons.1 ha with rfl|ha
   ·exact hb
   ·exact r5 h a ha
  ·exact absurd h ‹_›
def rN {r:Sy} {l:List r.den} {i:Int} (h0:0<=i) (h:i.toNat<l.length) (K:r.den->Prop):aU r (List.map r.enc l) i K=K l[i.toNat]:=by
 have e:i=((i.toNat:Nat):Int):=by omega
 have:=bA h K;rw[<-e] at this;exact this
def AWH {l:List Int} {k:Nat} (h:k<l.length) (y:Int):(List.map (Sy.int .i64).enc l).set k (b6 ((Sy.int .i64).enc l[k]) 0 [pPP y])=List.map (Sy.int .i64).enc (l.set k y):=by
 rw[List.map_set];rfl
def XB {l:List Bool} {k:Nat} (h:k<l.length) (y:Bool):(List.map Sy.bool.enc l).set k (b6 (Sy.bool.enc l[k]) 0 [pPR y])=List.map Sy.bool.enc (l.set k y):=by
 rw[List.map_set];rfl
variable {α:Type}
def pA {l:List α} {k:Nat} (d:α) (h:k<l.length):l.getD k d=l[k]:=by simp[List.getD,h]
def BJ8 (n:Nat):List.replicate n [T.v (Value.int .i64 0)]=List.map (Sy.int .i64).enc (List.replicate n 0):=by rw[List.map_replicate];rfl
def AMU (n:Nat):List.replicate n [pPR false]=List.map Sy.bool.enc (List.replicate n false):=by rw[List.map_replicate];rfl
def Y9 (l:List Int):((List.map (Sy.int .i64).enc l).all λ(r:List T)=>r.all T.flat)=true:=by
 rw[List.all_map,List.all_eq_true];intro a _;rfl
def XI (x:Int×List aN):Option T:=oI x.2 (Sh.enc C7 (eR x.1 x.2))
def HY:List T->Option (T):=gS QW XI
def AQ8 {a0 a1}:HY [pPP a0,T.sl false (List.map aC.enc a1)]=XI (a0,a1):=a8 (s:=QW) rfl (a0,a1) rfl
def BCP (h:∀ a0 a1 r,XI (a0,a1)=some r->bR QW (a0,a1)->ABZ a0 a1 (λy=>y=r)):j9 Tryz.prog 118 HY :=
 AVJ (E:=ABI) (Hs:=AUG) AYC aV aY (aQ rfl) 8 ⟨_,_,Tryz.func118,rfl⟩ rfl λx r h1 h2=>by
  obtain ⟨a0,a1⟩:=x;rw[show Sh.lD QW (a0,a1)=[aH false (Sy.int IntKind.i64) a0,aH false aC.li a1] from rfl,AO1];exact h a0 a1 r h1 h2
def A86:j9 Tryz.prog 118 HY:=BCP λn l r h hb=>by
 obtain ⟨hl,rfl⟩:=iR h;clear h;have hl:l.length<=140737488355328:=hl;unfold ABZ BT5 BT1 BTP UV M2 i7 d8 d3;refine b8 (λh=>?_) λhn0=>?_
 ·refine ⟨rfl,?_⟩;show _=Sh.enc C7 (eR n l);rw[eR,if_pos (Or.inl h)];rfl
 refine b8 (λh=>?_) λhn1=>?_
 ·refine ⟨rfl,?_⟩;show _=Sh.enc C7 (eR n l);rw[eR,if_pos (Or.inr h)];rfl
 refine aM (s:=[(false,.int .i64)]) (y:=bT (pN n) l) (by rw[A1B];exact fH _ hl) ?_;refine kD (λh0=>?_) (λh0=>?_)
 ·refine ⟨rfl,?_⟩;show _=Sh.enc C7 (eR n l);rw[eR,if_neg (by omega),if_neg h0];rfl
 have hv:eR n l=yI l n.toNat n.toNat (l.foldl TF (List.replicate n.toNat 0)) [] (List.replicate n.toNat false):=by
  rw[eR,if_neg (by omega),if_pos h0]
 have hend:∀ e∈l,0<=e.1/\e.1<n/\0<=e.2/\e.2<n:=λe he=>by
  have:=r5 h0 e he;unfold pN at this;split at this
  ·exact absurd this (by decide)
  ·omega
 clear h0 hb;obtain ⟨N,rfl⟩:∃ N:Nat,n=(N:Int):=⟨n.toNat,by omega⟩
 rw[Int.toNat_natCast] at hv ⊢;refine ⟨by simp;omega,?_⟩;rw[BJ8,dJ rfl];refine bJ l.length (λk s=>s.2.1=(k:Int)/\s.1.length=N/\(l.drop k).foldl TF s.1=l.foldl TF (List.replicate N 0)) ⟨rfl,by simp,rfl⟩ ?_;rintro X k ⟨b,i,u⟩ hk ⟨rfl,hbl,hbf⟩ hX;dsimp only at hbl hbf ⊢;refine b8 (λhlt=>?_) λhge=>?_
 ·rw[ae] at hlt;have hlt:k<l.length:=by omega
  rw[bA hlt];obtain ⟨-,-,e0,e1⟩:=hend _ (ak hlt);have hj:(l[k].2).toNat<b.length:=by omega
  rw[rN e0 hj,gI hj,rN e0 hj,n9 hj];refine ⟨rfl,?_⟩;rw[AWH hj,dJ rfl];refine hX _ hlt ⟨?_,?_,?_⟩
  ·show i64.wrap ((k:Int)+1)=_;rw[aZ]<;>omega
  ·show (List.set _ _ _).length=N;rw[List.length_set];exact hbl
  ·rw[List.drop_eq_getElem_cons hlt,List.foldl_cons] at hbf;rw[<-hbf]
   congr 1
   unfold TF;rw[pA (l:=b) 0 hj]
 rw[ae] at hge;have hkl:k=l.length:=by omega
 subst hkl;rw[List.drop_length,List.foldl_nil] at hbf;rw[<-hbf] at hv;refine ⟨by simp;omega,⟨by simp;omega,?_⟩⟩;rw[dJ rfl,A76,AMU,dJ rfl];clear hX hge hbf;refine bJ N (λk s=>s.1.length=N/\s.2.1.length=k/\s.2.2.1.length=N/\yI l N (N-k) s.1 s.2.1 s.2.2.1=eR N l) ⟨hbl,rfl,by simp,by rw[hv];rfl⟩ ?_;clear hv hbl b u;rintro X k ⟨b,o,t,u⟩ hk ⟨hbl,hol,htl,hr⟩ hX;dsimp only at hbl hol htl hr ⊢;refine b8 (λhlt=>?_) λhge=>?_
 ·rw[ae,hol] at hlt;have hlt:k<N:=by omega
  rw[cI,cI,cI];obtain ⟨m,hm⟩:∃ m,N-k=m+1:=⟨N-k-1,by omega⟩
  rw[hm,yI] at hr;refine bJ N (λj s=>s.1=(j:Int)/\(List.range N).find? (EE b t)=(List.range' j (N-j)).find? (EE b t)) ⟨rfl,by rw[List.range_eq_range'];rfl⟩ ?_;rintro Y j ⟨i,u1,u2,u3,u4⟩ hj ⟨rfl,hf⟩ hY;dsimp only at hf ⊢;refine b8 (λhjn=>?_) λhjn=>?_
  ·have hjn:j<N:=by omega
   have hjb:j<b.length:=by omega
   have hjt:j<t.length:=by omega
   obtain ⟨q,hq⟩:∃ q,N-j=q+1:=⟨N-j-1,by omega⟩
   rw[hq,List.range'_succ,List.find?_cons] at hf;have next:EE b t j=false->Y (i64.wrap ((j:Int)+1),(),(),(),()):=λh=>by
    refine hY _ hjn ⟨?_,?_⟩
    ·show i64.wrap ((j:Int)+1)=_;rw[aZ]<;>omega
    ·rw[hf,h];rw[show N-(j+1)=q by omega]
   simp only[Int.toNat_natCast];rw[bA hjt,gI hjt];refine zQ (λht=>?_) λht=>?_
   ·rw[cI,cI,cI];exact next (by rw[EE,pA (l:=t) false hjt,ht];rfl)
   rw[bA hjb,gI hjb];refine b8 (λhp=>?_) λhp=>?_
   ·rw[cI,cI,cI];exact next (by rw[EE,pA (l:=b) 0 hjb,aj (by omega),Bool.and_false])
   have hfree:EE b t j=true:=by rw[EE,pA (l:=b) 0 hjb,pA (l:=t) false hjt,ht,ai (by omega)];rfl
   rw[hfree] at hf;rw[hf] at hr;dsimp only at hr;clear next hY hf
   rw[bA hjt,n9 hjt];refine ⟨rfl,⟨by simp;omega,?_⟩⟩;rw[dJ rfl];refine bJ l.length (λk s=>s.2.1=(k:Int)/\s.1.length=N/\(l.drop k).foldl (TG j) s.1=l.foldl (TG j) b) ⟨rfl,hbl,rfl⟩ ?_;rintro Z i ⟨c,i',u⟩ hi ⟨rfl,hcl,hcf⟩ hZ;dsimp only at hcl hcf ⊢;refine b8 (λhlt=>?_) λhge=>?_
   ·rw[ae] at hlt;have hlt:i<l.length:=by omega
    rw[bA hlt];obtain ⟨-,-,e0,e1⟩:=hend _ (ak hlt);have hjc:(l[i].2).toNat<c.length:=by omega
    rw[List.drop_eq_getElem_cons hlt,List.foldl_cons] at hcf;have hw:i64.wrap ((i:Int)+1)=((i+1:Nat):Int):=by rw[aZ]<;>omega
    refine b8 (λhv=>?_) λhv=>?_
    ·rw[rN e0 hjc,gI hjc,rN e0 hjc,n9 hjc];refine ⟨rfl,?_⟩;rw[AWH hjc,dJ rfl];refine hZ _ hlt ⟨hw,?_,?_⟩
     ·show (List.set _ _ _).length=N;rw[List.length_set];exact hcl
     ·rw[<-hcf]
      congr 1
      unfold TG;rw[if_pos hv,pA (l:=c) 0 hjc]
    ·rw[dJ rfl];refine hZ _ hlt ⟨hw,hcl,?_⟩;rw[<-hcf]
     congr 1
     unfold TG;rw[if_neg hv]
   ·rw[ae] at hge;have hil:i=l.length:=by omega
    subst hil;rw[List.drop_length,List.foldl_nil] at hcf;rw[dJ rfl,vC (r:=.int .i64) rfl o [T.v (.int .i64 (j:Int))] (j:Int) rfl,XB hjt,dJ rfl];refine hX _ hlt ⟨hcl,by simp[hol],by simp[htl],?_⟩;rw[show N-(k+1)=m by omega];show yI l N m c (o++[(j:Int)]) (t.set j true)=_;rw[hcf];exact hr
  ·have hjn:j=N:=by omega
   subst hjn;rw[Nat.sub_self] at hf;rw[show (List.range' j 0)=[] from rfl,List.find?_nil] at hf;rw[hf] at hr;refine ⟨rfl,?_⟩;show _=Sh.enc C7 (eR (j:Int) l);rw[<-hr];rfl
 ·rw[ae,hol] at hge;have hkN:k=N:=by omega
  subst hkN;rw[Nat.sub_self,yI] at hr;refine ⟨Y9 o,rfl,?_⟩;show _=Sh.enc C7 (eR (k:Int) l);rw[<-hr];rfl
end Go.Pv
namespace Go.Pv
open Go Go.Proofs IntKind
def zU (a0:List iII):List T:=[T.sl false (List.map Sy.str.enc a0)]
def AO8(a0:List iII)(R:T->Prop):Prop:=R (T.fn 270 [] [T.ref [T.sl false (GT a0)]])
def AYQ ( a0 R):fE cA Tryz.prog oU c0 8 117 (zU a0) R=AO8 a0 R:=by kernel_rfl
def AGH (l:List iII):Option T:=some (T.fn 270 [] [T.ref [T.sl false (List.map Sy.str.enc l)]])
def ANK (x y:List iII) (h:zU x=zU y):x=y:=by
 unfold zU at h;have h:=(T.sl.injEq .. ▸ (List.cons.inj h).1)
 exact map_inj (Sy.eU .str) h.2
def L2:List T->Option (T):=gA (λ(x:List iII)=>zU x) AGH
def ZV (a0:List iII):L2 (zU a0)=AGH a0:=gF (A:=(λ(x:List iII)=>zU x)) ANK a0
def BJR (h:∀ (a0:List iII) (r:T),AGH a0=some r->(∀ t∈zU a0,Bd t)->AO8 a0 (λy=>y=r)):aT Tryz.prog 117 L2 :=
 dA (E:=oU) (Hs:=c0) (bM _) aV aY (aQ rfl) 8 ⟨_,_,Tryz.func117,rfl⟩ λx r h1 h2=>by
  rw[AYQ];exact h x r h1 h2
def BIB:aT Tryz.prog 117 L2:=BJR λl r h hb=>by
 cases h;unfold AO8 GT;rfl
end Go.Pv
namespace Go.Pv
abbrev Pt:=Int×Int
def aR (a b c:Pt):Int:=(b.1-a.1)*(c.2-a.2)-(b.2-a.2)*(c.1-a.1)
def BX (n:Int):Int:=if n<0 then -1 else if 0<n then 1 else 0
def btw (a b q:Pt):Bool:=decide (min a.1 b.1<=q.1)&&decide (q.1<=max a.1 b.1)&&(decide (min a.2 b.2<=q.2)&&decide (q.2<=max a.2 b.2))
def tC (a b q:Pt):Bool:=decide (aR a b q=0)&&btw a b q
def dM (a b c d:Pt):Bool:=tC a b c||tC a b d||tC c d a||tC c d b||(decide (BX (aR a b c)*BX (aR a b d)<0)&&decide (BX (aR c d a)*BX (aR c d b)<0))
def dQ (q:Pt):Prop:=-32768<=q.1/\q.1<=32768∧-32768<=q.2/\q.2<=32768
def FT {x y M N:Int} (hx:-M<=x/\x<=M) (hy:-N<=y/\y<=N) (hM:0<=M) (hN:0<=N):-(M*N)<=x*y/\x*y<=M*N:=by
 have h1:x.natAbs<=M.toNat:=by omega
 have h2:y.natAbs<=N.toNat:=by omega
 have h3:=Nat.mul_le_mul h1 h2;rw[<-Int.natAbs_mul] at h3;have h4:((M.toNat*N.toNat:Nat):Int)=M*N:=by
  rw[Int.natCast_mul,Int.toNat_of_nonneg hM,Int.toNat_of_nonneg hN]
 omega
def A75 {a b c:Pt} (ha:dQ a) (hb:dQ b) (hc:dQ c):(-4294967296<=(b.1-a.1)*(c.2-a.2)/\(b.1-a.1)*(c.2-a.2)<=4294967296)/\(-4294967296<=(b.2-a.2)*(c.1-a.1)/\(b.2-a.2)*(c.1-a.1)<=4294967296):=by
 unfold dQ at ha hb hc;have h1:=FT (x:=b.1-a.1) (y:=c.2-a.2) (M:=65536) (N:=65536) (by omega) (by omega) (by omega) (by omega);have h2:=FT (x:=b.2-a.2) (y:=c.1-a.1) (M:=65536) (N:=65536) (by omega) (by omega) (by omega) (by omega);constructor<;>constructor<;>omega
def BEX (n:Int):-1<=BX n/\BX n<=1:=by unfold BX;split<;>(try split)<;>omega
def yH (a b c d:Pt):dM a b c d=dM c d a b:=by
 unfold dM;cases tC a b c<;>cases tC a b d<;>cases tC c d a<;>cases tC c d b<;>simp[Bool.and_comm]
end Go.Pv
namespace Go.Pv
def AD6 (a b u v:Pt):aR u v b-aR u v a+aR a b v-aR a b u=0:=by
 simp only[aR];grind
def BR6 (a b u v:Pt):(a.2-u.2)*aR u v b-(b.2-u.2)*aR u v a-(v.2-u.2)*aR a b u=0:=by
 simp only[aR];grind
def BR7 (a b u v:Pt):(a.2-v.2)*aR u v b-(b.2-v.2)*aR u v a+(u.2-v.2)*aR a b v=0:=by
 simp only[aR];grind
def BR4 (a b u v:Pt):(b.2-a.2)*aR u v a+(v.2-a.2)*aR a b u-(u.2-a.2)*aR a b v=0:=by
 simp only[aR];grind
def BR5 (a b u v:Pt):(b.2-a.2)*aR u v b+(v.2-b.2)*aR a b u-(u.2-b.2)*aR a b v=0:=by
 simp only[aR];grind
end Go.Pv
namespace Go.Pv
def hit (a b q:Pt):Bool:=(decide (a.2<=q.2)&&decide (q.2<b.2)&&decide (0<aR a b q))||(decide (b.2<=q.2)&&decide (q.2<a.2)&&decide (aR a b q<0))
def dr (u v w:Pt):Bool:=decide (u.2<w.2)&&decide (w.2<=v.2)&&decide (aR u v w<0)
def iX (a b q:Pt):aR b a q = - aR a b q:=by simp only[aR];grind
def AK8 (a b q:Pt):hit a b q=hit b a q:=by
 have e1:decide (0<aR b a q)=decide (aR a b q<0):=decide_eq_decide.2 (by rw[iX a b q];omega);have e2:decide (aR b a q<0)=decide (0<aR a b q):=decide_eq_decide.2 (by rw[iX a b q];omega);unfold hit;rw[e1,e2,Bool.or_comm]
def BOM {a b q:Pt} (h:aR a b q=0) (hab:a.2<b.2) (h1:a.2<=q.2) (h2:q.2<=b.2):btw a b q=true:=by
 have e:(b.1-a.1)*(q.2-a.2)=(b.2-a.2)*(q.1-a.1):=by unfold aR at h;omega
 have hx:min a.1 b.1<=q.1/\q.1<=max a.1 b.1:=by
  rcases Int.le_total a.1 b.1 with hd|hd
  ·have m1:=Int.mul_nonneg (show 0<=b.1-a.1 by omega) (show 0<=q.2-a.2 by omega);have m2:(b.1-a.1)*(q.2-a.2)<=(b.1-a.1)*(b.2-a.2):=Int.mul_le_mul_of_nonneg_left (by omega) (by omega);have p1:0<=q.1-a.1:=by
    refine Int.not_lt.1 λh=>?_;have:=Int.mul_neg_of_pos_of_neg (show 0<b.2-a.2 by omega) h;omega
   have p2:q.1-a.1<=b.1-a.1:=by
    refine Int.not_lt.1 λh=>?_;have h3:=Int.mul_lt_mul_of_pos_left h (show 0<b.2-a.2 by omega);have h4:(b.2-a.2)*(b.1-a.1)=(b.1-a.1)*(b.2-a.2):=Int.mul_comm _ _;omega
   omega
  ·have m1:=Int.mul_nonneg (show 0<=a.1-b.1 by omega) (show 0<=q.2-a.2 by omega);have m2:(a.1-b.1)*(q.2-a.2)<=(a.1-b.1)*(b.2-a.2):=Int.mul_le_mul_of_nonneg_left (by omega) (by omega);have e1:(a.1-b.1)*(q.2-a.2) = - ((b.1-a.1)*(q.2-a.2)):=by grind
   have p1:q.1-a.1<=0:=by
    refine Int.not_lt.1 λh=>?_;have:=Int.mul_pos (show 0<b.2-a.2 by omega) h;omega
   have p2:b.1-a.1<=q.1-a.1:=by
    refine Int.not_lt.1 λh=>?_;have h3:=Int.mul_lt_mul_of_pos_left h (show 0<b.2-a.2 by omega);have h4:(a.1-b.1)*(b.2-a.2) = - ((b.2-a.2)*(b.1-a.1)):=by grind
    omega
   omega
 simp only[btw,ac,ah];omega
def n8 {a b q:Pt} (h:aR a b q=0) (hab:a.2<b.2) (h1:a.2<=q.2) (h2:q.2<=b.2):tC a b q=true:=by
 unfold tC;rw[ai h,BOM h hab h1 h2];rfl
def AEK {a b q:Pt} (h1:a.2=q.2) (h2:b.2=q.2) (h3:min a.1 b.1<=q.1) (h4:q.1<=max a.1 b.1):tC a b q=true:=by
 unfold tC btw aR;simp only[ac,ah];refine ⟨?_,⟨h3,h4⟩,by omega⟩;rw[h1,h2];grind
def pU {a b u v:Pt} (hm:dM a b u v=false):¬ (((0<aR a b u/\aR a b v<0)\/(aR a b u<0/\0<aR a b v))/\((0<aR u v a/\aR u v b<0)\/(aR u v a<0/\0<aR u v b))):=by
 rintro ⟨h1,h2⟩;have s1:BX (aR a b u)*BX (aR a b v)<0:=by
  unfold BX;rcases h1 with ⟨h,h'⟩|⟨h,h'⟩
  ·rw[if_neg (by omega),if_pos h,if_pos h'];decide
  ·rw[if_pos h,if_neg (by omega),if_pos h'];decide
 have s2:BX (aR u v a)*BX (aR u v b)<0:=by
  unfold BX;rcases h2 with ⟨h,h'⟩|⟨h,h'⟩
  ·rw[if_neg (by omega),if_pos h,if_pos h'];decide
  ·rw[if_pos h,if_neg (by omega),if_pos h'];decide
 simp[dM,s1,s2] at hm
def sM {a b u v:Pt} (hm:dM a b u v=false):tC a b u=false/\tC a b v=false/\tC u v a=false/\tC u v b=false:=by
 simp only[dM,Bool.or_eq_false_iff] at hm;exact ⟨hm.1.1.1.1,hm.1.1.1.2,hm.1.1.2,hm.1.2⟩
def AMA {a b u v:Pt} (huv:u.2<=v.2) (hm:dM a b u v=false) (h1:a.2<=u.2) (h2:v.2<b.2):0<aR a b u↔0<aR a b v:=by
 obtain ⟨n1,n2,n3,n4⟩:=sM hm;have ms:=pU hm;have i1:=AD6 a b u v;have i2:=BR6 a b u v;have i3:=BR7 a b u v;have z1:aR a b u≠0:=λh=>by rw[n8 h (by omega) h1 (by omega)] at n1;cases n1
 have z2:aR a b v≠0:=λh=>by rw[n8 h (by omega) (by omega) (by omega)] at n2;cases n2
 have e1:(a.2-u.2)*aR u v b = - ((u.2-a.2)*aR u v b):=by grind
 have e2:(a.2-v.2)*aR u v b = - ((v.2-a.2)*aR u v b):=by grind
 have e3:(u.2-v.2)*aR a b v = - ((v.2-u.2)*aR a b v):=by grind
 have flat:u.2=v.2->a.2=u.2->((0<aR a b u/\aR a b v<0)\/(aR a b u<0/\0<aR a b v))->False:=by
  intro g1 g2 g3;have c1:aR a b u = -((b.2-a.2)*(u.1-a.1)):=by unfold aR;rw[g2];grind
  have c2:aR a b v = -((b.2-a.2)*(v.1-a.1)):=by unfold aR;rw[g2,g1];grind
  have sg:∀ x:Int,(0<(b.2-a.2)*x->0<x)/\((b.2-a.2)*x<0->x<0):=λx=>by
   refine ⟨λh=>Int.not_le.1 λhx=>?_,λh=>Int.not_le.1 λhx=>?_⟩
   ·have:=Int.mul_nonpos_of_nonneg_of_nonpos (show 0<=b.2-a.2 by omega) hx;omega
   ·have:=Int.mul_nonneg (show 0<=b.2-a.2 by omega) hx;omega
  have k1:=sg (u.1-a.1);have k2:=sg (v.1-a.1);have:tC u v a=true:=AEK (by omega) (by omega) (by omega) (by omega);rw[this] at n3;cases n3
 constructor
 ·intro t1;refine Int.not_le.1 λt2=>?_;have t2:aR a b v<0:=by omega
  have b1:=Int.mul_nonneg (show 0<=v.2-u.2 by omega) (Int.le_of_lt t1);have b2:=Int.mul_nonpos_of_nonneg_of_nonpos (show 0<=v.2-u.2 by omega) (Int.le_of_lt t2);rcases Int.lt_or_le (aR u v a) 0 with s1|s1
  ·rcases Int.lt_or_le 0 (aR u v b) with s2|s2
   ·exact ms ⟨.inl ⟨t1,t2⟩,.inr ⟨s1,s2⟩⟩
   ·have c1:=Int.mul_nonpos_of_nonneg_of_nonpos (show 0<=v.2-a.2 by omega) s2;have c2:=Int.mul_neg_of_pos_of_neg (show 0<b.2-v.2 by omega) s1;omega
  ·have s2:0<aR u v b:=by omega
   have c1:=Int.mul_nonneg (show 0<=u.2-a.2 by omega) (Int.le_of_lt s2);have c2:=Int.mul_nonneg (show 0<=b.2-u.2 by omega) s1;have g1:v.2-u.2=0:=by
    refine Classical.byContradiction λh=>?_;have:=Int.mul_pos (show 0<v.2-u.2 by omega) t1;omega
   have g2:u.2-a.2=0:=by
    refine Classical.byContradiction λh=>?_;have:=Int.mul_pos (show 0<u.2-a.2 by omega) s2;omega
   exact flat (by omega) (by omega) (.inl ⟨t1,t2⟩)
 ·intro t2;refine Int.not_le.1 λt1=>?_;have t1:aR a b u<0:=by omega
  have b2:=Int.mul_nonneg (show 0<=v.2-u.2 by omega) (Int.le_of_lt t2);have b1:=Int.mul_nonpos_of_nonneg_of_nonpos (show 0<=v.2-u.2 by omega) (Int.le_of_lt t1);rcases Int.lt_or_le 0 (aR u v a) with s1|s1
  ·rcases Int.lt_or_le (aR u v b) 0 with s2|s2
   ·exact ms ⟨.inr ⟨t1,t2⟩,.inl ⟨s1,s2⟩⟩
   ·have c1:=Int.mul_nonneg (show 0<=v.2-a.2 by omega) s2;have c2:=Int.mul_pos (show 0<b.2-v.2 by omega) s1;omega
  ·have s2:aR u v b<0:=by omega
   have c1:=Int.mul_nonpos_of_nonneg_of_nonpos (show 0<=u.2-a.2 by omega) (Int.le_of_lt s2);have c2:=Int.mul_nonpos_of_nonneg_of_nonpos (show 0<=b.2-u.2 by omega) s1;have g1:v.2-u.2=0:=by
    refine Classical.byContradiction λh=>?_;have:=Int.mul_neg_of_pos_of_neg (show 0<v.2-u.2 by omega) t1;omega
   have g2:u.2-a.2=0:=by
    refine Classical.byContradiction λh=>?_;have:=Int.mul_neg_of_pos_of_neg (show 0<u.2-a.2 by omega) s2;omega
   exact flat (by omega) (by omega) (.inr ⟨t1,t2⟩)
end Go.Pv
namespace Go.Pv
def BJX {a b u v:Pt} (hm:dM a b u v=false) (h1:a.2<=u.2) (h2:u.2<b.2) (h3:b.2<=v.2):0<aR a b u↔aR u v b<0:=by
 obtain ⟨n1,n2,n3,n4⟩:=sM hm;have ms:=pU hm;have i2:=BR6 a b u v;have i4:=BR5 a b u v;have z1:aR a b u≠0:=λh=>by rw[n8 h (by omega) h1 (by omega)] at n1;cases n1
 have z2:aR u v b≠0:=λh=>by rw[n8 h (by omega) (by omega) (by omega)] at n4;cases n4
 have e1:(a.2-u.2)*aR u v b = - ((u.2-a.2)*aR u v b):=by grind
 have e2:(u.2-b.2)*aR a b v = - ((b.2-u.2)*aR a b v):=by grind
 constructor
 ·intro t1;refine Int.not_le.1 λs2=>?_;have s2:0<aR u v b:=by omega
  have c1:=Int.mul_pos (show 0<b.2-a.2 by omega) s2;have c2:=Int.mul_nonneg (show 0<=v.2-b.2 by omega) (Int.le_of_lt t1);have t2:aR a b v<0:=Int.not_le.1 λh=>by
   have:=Int.mul_nonneg (show 0<=b.2-u.2 by omega) h;omega
  have c3:=Int.mul_nonneg (show 0<=u.2-a.2 by omega) (Int.le_of_lt s2);have c4:=Int.mul_pos (show 0<v.2-u.2 by omega) t1;have s1:aR u v a<0:=Int.not_le.1 λh=>by
   have:=Int.mul_nonneg (show 0<=b.2-u.2 by omega) h;omega
  exact ms ⟨.inl ⟨t1,t2⟩,.inr ⟨s1,s2⟩⟩
 ·intro s2;refine Int.not_le.1 λt1=>?_;have t1:aR a b u<0:=by omega
  have c1:=Int.mul_neg_of_pos_of_neg (show 0<b.2-a.2 by omega) s2;have c2:=Int.mul_nonpos_of_nonneg_of_nonpos (show 0<=v.2-b.2 by omega) (Int.le_of_lt t1);have t2:0<aR a b v:=Int.not_le.1 λh=>by
   have:=Int.mul_nonpos_of_nonneg_of_nonpos (show 0<=b.2-u.2 by omega) h;omega
  have c3:=Int.mul_nonpos_of_nonneg_of_nonpos (show 0<=u.2-a.2 by omega) (Int.le_of_lt s2);have c4:=Int.mul_neg_of_pos_of_neg (show 0<v.2-u.2 by omega) t1;have s1:0<aR u v a:=Int.not_le.1 λh=>by
   have:=Int.mul_nonpos_of_nonneg_of_nonpos (show 0<=b.2-u.2 by omega) h;omega
  exact ms ⟨.inr ⟨t1,t2⟩,.inl ⟨s1,s2⟩⟩
def BDH {a b u v:Pt} (hm:dM a b u v=false) (h1:u.2<a.2) (h2:a.2<=v.2) (h3:v.2<b.2):0<aR a b v↔aR u v a<0:=by
 obtain ⟨n1,n2,n3,n4⟩:=sM hm;have ms:=pU hm;have i3:=BR7 a b u v;have i4:=BR4 a b u v;have z1:aR a b v≠0:=λh=>by rw[n8 h (by omega) h2 (by omega)] at n2;cases n2
 have z2:aR u v a≠0:=λh=>by rw[n8 h (by omega) (by omega) (by omega)] at n3;cases n3
 have e1:(a.2-v.2)*aR u v b = - ((v.2-a.2)*aR u v b):=by grind
 have e2:(u.2-v.2)*aR a b v = - ((v.2-u.2)*aR a b v):=by grind
 have e3:(u.2-a.2)*aR a b v = - ((a.2-u.2)*aR a b v):=by grind
 constructor
 ·intro t2;refine Int.not_le.1 λs1=>?_;have s1:0<aR u v a:=by omega
  have c1:=Int.mul_pos (show 0<b.2-v.2 by omega) s1;have c2:=Int.mul_pos (show 0<v.2-u.2 by omega) t2;have c3:=Int.mul_pos (show 0<b.2-a.2 by omega) s1;have c4:=Int.mul_pos (show 0<a.2-u.2 by omega) t2;have s2:aR u v b<0:=Int.not_le.1 λh=>by
   have:=Int.mul_nonneg (show 0<=v.2-a.2 by omega) h;omega
  have t1:aR a b u<0:=Int.not_le.1 λh=>by
   have:=Int.mul_nonneg (show 0<=v.2-a.2 by omega) h;omega
  exact ms ⟨.inr ⟨t1,t2⟩,.inl ⟨s1,s2⟩⟩
 ·intro s1;refine Int.not_le.1 λt2=>?_;have t2:aR a b v<0:=by omega
  have c1:=Int.mul_neg_of_pos_of_neg (show 0<b.2-v.2 by omega) s1;have c2:=Int.mul_neg_of_pos_of_neg (show 0<v.2-u.2 by omega) t2;have c3:=Int.mul_neg_of_pos_of_neg (show 0<b.2-a.2 by omega) s1;have c4:=Int.mul_neg_of_pos_of_neg (show 0<a.2-u.2 by omega) t2;have s2:0<aR u v b:=Int.not_le.1 λh=>by
   have:=Int.mul_nonpos_of_nonneg_of_nonpos (show 0<=v.2-a.2 by omega) h;omega
  have t1:0<aR a b u:=Int.not_le.1 λh=>by
   have:=Int.mul_nonpos_of_nonneg_of_nonpos (show 0<=v.2-a.2 by omega) h;omega
  exact ms ⟨.inl ⟨t1,t2⟩,.inr ⟨s1,s2⟩⟩
def BJY {a b u v:Pt} (hm:dM a b u v=false) (h1:u.2<a.2) (h2:a.2<=b.2) (h3:b.2<=v.2):aR u v a<0↔aR u v b<0:=by
 obtain ⟨n1,n2,n3,n4⟩:=sM hm;have ms:=pU hm;have i1:=AD6 a b u v;have i3:=BR4 a b u v;have i4:=BR5 a b u v;have z1:aR u v a≠0:=λh=>by rw[n8 h (by omega) (by omega) (by omega)] at n3;cases n3
 have z2:aR u v b≠0:=λh=>by rw[n8 h (by omega) (by omega) (by omega)] at n4;cases n4
 have e2:(u.2-a.2)*aR a b v = - ((a.2-u.2)*aR a b v):=by grind
 have e3:(u.2-b.2)*aR a b v = - ((b.2-u.2)*aR a b v):=by grind
 have flat:a.2=b.2->v.2=b.2->((aR u v a<0/\0<aR u v b)\/(0<aR u v a/\aR u v b<0))->False:=by
  intro g1 g2 g3;have c1:aR u v a=(v.2-u.2)*(v.1-a.1):=by unfold aR;rw[show a.2=v.2 by omega];grind
  have c2:aR u v b=(v.2-u.2)*(v.1-b.1):=by unfold aR;rw[show b.2=v.2 by omega];grind
  have sg:∀ x:Int,(0<(v.2-u.2)*x->0<x)/\((v.2-u.2)*x<0->x<0):=λx=>by
   refine ⟨λh=>Int.not_le.1 λhx=>?_,λh=>Int.not_le.1 λhx=>?_⟩
   ·have:=Int.mul_nonpos_of_nonneg_of_nonpos (show 0<=v.2-u.2 by omega) hx;omega
   ·have:=Int.mul_nonneg (show 0<=v.2-u.2 by omega) hx;omega
  have k1:=sg (v.1-a.1);have k2:=sg (v.1-b.1);have:tC a b v=true:=AEK (by omega) (by omega) (by omega) (by omega);rw[this] at n2;cases n2
 constructor
 ·intro s1;refine Int.not_le.1 λs2=>?_;have s2:0<aR u v b:=by omega
  have d1:=Int.mul_nonpos_of_nonneg_of_nonpos (show 0<=b.2-a.2 by omega) (Int.le_of_lt s1);have d2:=Int.mul_nonneg (show 0<=b.2-a.2 by omega) (Int.le_of_lt s2);rcases Int.lt_or_le (aR a b v) 0 with t2|t2
  ·rcases Int.lt_or_le 0 (aR a b u) with t1|t1
   ·exact ms ⟨.inl ⟨t1,t2⟩,.inr ⟨s1,s2⟩⟩
   ·have c1:=Int.mul_nonpos_of_nonneg_of_nonpos (show 0<=v.2-a.2 by omega) t1;have c2:=Int.mul_neg_of_pos_of_neg (show 0<a.2-u.2 by omega) t2;omega
  ·have t1:0<aR a b u:=by omega
   have c1:=Int.mul_nonneg (show 0<=v.2-b.2 by omega) (Int.le_of_lt t1);have c2:=Int.mul_nonneg (show 0<=b.2-u.2 by omega) t2;have g1:b.2-a.2=0:=Classical.byContradiction λh=>by
    have:=Int.mul_pos (show 0<b.2-a.2 by omega) s2;omega
   have g2:v.2-b.2=0:=Classical.byContradiction λh=>by
    have:=Int.mul_pos (show 0<v.2-b.2 by omega) t1;omega
   exact flat (by omega) (by omega) (.inl ⟨s1,s2⟩)
 ·intro s2;refine Int.not_le.1 λs1=>?_;have s1:0<aR u v a:=by omega
  have d1:=Int.mul_nonneg (show 0<=b.2-a.2 by omega) (Int.le_of_lt s1);have d2:=Int.mul_nonpos_of_nonneg_of_nonpos (show 0<=b.2-a.2 by omega) (Int.le_of_lt s2);rcases Int.lt_or_le 0 (aR a b v) with t2|t2
  ·rcases Int.lt_or_le (aR a b u) 0 with t1|t1
   ·exact ms ⟨.inr ⟨t1,t2⟩,.inl ⟨s1,s2⟩⟩
   ·have c1:=Int.mul_nonneg (show 0<=v.2-a.2 by omega) t1;have c2:=Int.mul_pos (show 0<a.2-u.2 by omega) t2;omega
  ·have t1:aR a b u<0:=by omega
   have c1:=Int.mul_nonpos_of_nonneg_of_nonpos (show 0<=v.2-b.2 by omega) (Int.le_of_lt t1);have c2:=Int.mul_nonpos_of_nonneg_of_nonpos (show 0<=b.2-u.2 by omega) t2;have g1:b.2-a.2=0:=Classical.byContradiction λh=>by
    have:=Int.mul_neg_of_pos_of_neg (show 0<b.2-a.2 by omega) s2;omega
   have g2:v.2-b.2=0:=Classical.byContradiction λh=>by
    have:=Int.mul_neg_of_pos_of_neg (show 0<v.2-b.2 by omega) t1;omega
   exact flat (by omega) (by omega) (.inr ⟨s1,s2⟩)
def Y7 {a b u v:Pt} (huv:u.2<=v.2) (hab:a.2<=b.2) (hm:dM a b u v=false):(hit a b u ^^ hit a b v)=(dr u v a ^^ dr u v b):=by
 have dn:∀ q:Pt,(decide (b.2<=q.2)&&decide (q.2<a.2)&&decide (aR a b q<0))=false:=λq=>by
  rw[Bool.eq_false_iff];intro h;simp only[ac,ah] at h;omega
 unfold hit dr;rw[dn u,dn v,Bool.or_false,Bool.or_false];rcases Int.lt_or_le u.2 b.2 with hb|hb
 ·rcases Int.lt_or_le v.2 a.2 with ha|ha
  ·simp[show ¬ a.2<=u.2 by omega,show ¬ a.2<=v.2 by omega,show ¬ b.2<=v.2 by omega]
  ·rcases Int.lt_or_le u.2 a.2 with ha2|ha2
   ·rcases Int.lt_or_le v.2 b.2 with hb2|hb2
    ·have:=BDH hm ha2 ha hb2;simp[show ¬ a.2<=u.2 by omega,ha,hb2,show ¬ b.2<=v.2 by omega,ha2,this]
    ·have:=BJY hm ha2 hab hb2;simp[show ¬ a.2<=u.2 by omega,ha,show ¬ v.2<b.2 by omega,hb2,ha2,hb,this]
   ·rcases Int.lt_or_le v.2 b.2 with hb2|hb2
    ·have:=AMA huv hm ha2 hb2;simp[ha2,ha,hb,hb2,show ¬ b.2<=v.2 by omega,show ¬ u.2<a.2 by omega,this]
    ·have:=BJX hm ha2 hb hb2;simp[ha2,ha,hb,hb2,show ¬ v.2<b.2 by omega,show ¬ u.2<a.2 by omega,this]
 ·simp[show ¬ u.2<b.2 by omega,show ¬ v.2<b.2 by omega,show ¬ u.2<a.2 by omega]
end Go.Pv
namespace Go.Pv
def A7P (a b q:Pt):btw b a q=btw a b q:=by unfold btw;rw[Int.min_comm b.1,Int.max_comm b.1,Int.min_comm b.2,Int.max_comm b.2]
def QR (a b q:Pt):tC b a q=tC a b q:=by
 unfold tC;rw[A7P,iX a b q]
 congr 1
 exact decide_eq_decide.2 (by omega)
def AWI (n:Int):BX (-n) = - BX n:=by unfold BX;split<;>split<;>(try split)<;>omega
def MO (a b u v:Pt):dM b a u v=dM a b u v:=by
 unfold dM;rw[QR a b u,QR a b v,iX a b u,iX a b v,AWI,AWI,Int.neg_mul_neg,Int.mul_comm (BX (aR u v b))];cases tC a b u<;>cases tC a b v<;>cases tC u v a<;>cases tC u v b<;>rfl
def VB (a b u v:Pt):dM a b v u=dM a b u v:=by rw[yH a b v u,MO,yH u v a b]
def TL {a b u v:Pt} (huv:u.2<=v.2) (hm:dM a b u v=false):(hit a b u ^^ hit a b v)=(dr u v a ^^ dr u v b):=by
 rcases Int.le_total a.2 b.2 with h|h
 ·exact Y7 huv h hm
 ·rw[AK8 a b u,AK8 a b v,Bool.xor_comm (dr u v a)];exact Y7 huv h (by rw[MO];exact hm)
def jB:Nat->(Nat->Bool)->Bool
 | 0,_=>false
 | n+1,f=>jB n f ^^ f n
def j0 {f g:Nat->Bool}:∀ {n:Nat},(∀ i,i<n->f i=g i)->jB n f=jB n g
 | 0,_=>rfl
 | n+1,h=>by rw[jB,jB,j0 λi hi=>h i (by omega),h n (by omega)]
def qI (f g:Nat->Bool):∀ n:Nat,jB n (λi=>f i ^^ g i)=(jB n f ^^ jB n g)
 | 0=>rfl
 | n+1=>by
  rw[jB,jB,jB,qI f g n];cases jB n f<;>cases jB n g<;>cases f n<;>cases g n<;>rfl
def XW (f:Nat->Bool):∀ n:Nat,jB (n+1) f=(f 0 ^^ jB n λi=>f (i+1))
 | 0=>by simp[jB]
 | n+1=>by
  rw[jB,XW f n,jB];cases f 0<;>cases f (n+1)<;>cases jB n (λi=>f (i+1))<;>rfl
def BFR (d:Nat->Bool) (n:Nat):jB n (λi=>d ((i+1) % n))=jB n d:=by
 cases n with
 | zero=>rfl
 | succ m =>
  rw[XW d m,jB,Nat.mod_self];rw[j0 (g:=λi=>d (i+1)) λi hi=>by rw[Nat.mod_eq_of_lt (by omega)]];cases d 0<;>cases jB m (λi=>d (i+1))<;>rfl
def xD (d:Nat->Bool) (n:Nat):jB n (λi=>d i ^^ d ((i+1) % n))=false:=by
 rw[qI,BFR];cases jB n d<;>rfl
def pt (p:List Pt) (i:Nat):Pt:=p.getD i (0,0)
def nx (p:List Pt) (i:Nat):Pt:=pt p ((i+1) % p.length)
def jQ (p:List Pt) (q:Pt):Bool:=jB p.length λi=>hit (pt p i) (nx p i) q
def O4 {p:List Pt} {u v:Pt} (huv:u.2<=v.2) (h:∀ i,i<p.length->dM (pt p i) (nx p i) u v=false):jQ p u=jQ p v:=by
 have e:(jQ p u ^^ jQ p v)=false:=by
  unfold jQ;rw[<-qI,j0 λi hi=>TL huv (h i hi)];exact xD (λi=>dr u v (pt p i)) p.length
 revert e;cases jQ p u<;>cases jQ p v<;>simp
def U1 {p:List Pt} {u v:Pt} (h:∀ i,i<p.length->dM (pt p i) (nx p i) u v=false):jQ p u=jQ p v:=by
 rcases Int.le_total u.2 v.2 with huv|huv
 ·exact O4 huv h
 ·exact (O4 huv λi hi=>by rw[VB];exact h i hi).symm
end Go.Pv
namespace Go.Pv
open Go Go.Proofs IntKind
instance BS7 (q:Pt):Decidable (dQ q):=by unfold dQ;infer_instance
def iG {a b:Bool} (h:a=b):pPR a=pPR b:=by rw[h]
def PT {a b:Int} (h:a=b):pPP a=pPP b:=by rw[h]
variable {α:Type}
def VD (a b c:Pt) (r:α):Option α:=match decide (dQ a/\dQ b/\dQ c) with
 | true=>some r
 | false=>none
def VE {a b c:Pt} {t r:α} (h:VD a b c t=some r):dQ a/\dQ b/\dQ c/\r=t:=by
 unfold VD at h;split at h
 ·rename_i hc;cases h;obtain ⟨h1,h2,h3⟩:=of_decide_eq_true hc;exact ⟨h1,h2,h3,rfl⟩
 ·cases h
def VF {a b c:Pt} (t:α) (ha:dQ a) (hb:dQ b) (hc:dQ c):VD a b c t=some t:=by unfold VD;rw[ai ⟨ha,hb,hc⟩]
def XU {a b c:Pt} (ha:dQ a) (hb:dQ b) (hc:dQ c):i64.wrap (i64.wrap (i64.wrap (b.1-a.1)*i64.wrap (c.2-a.2))-i64.wrap (i64.wrap (b.2-a.2)*i64.wrap (c.1-a.1)))=aR a b c:=by
 have h:=A75 ha hb hc;unfold dQ at ha hb hc;rw[aZ (b.1-a.1) (by omega) (by omega),aZ (c.2-a.2) (by omega) (by omega),aZ (b.2-a.2) (by omega) (by omega),aZ (c.1-a.1) (by omega) (by omega),
  aZ ((b.1-a.1)*(c.2-a.2)) (by omega) (by omega),aZ ((b.2-a.2)*(c.1-a.1)) (by omega) (by omega),aZ _ (by omega) (by omega)]
 rfl
def KJ (m n:Int):i64.wrap (BX m*BX n)=BX m*BX n:=by
 have h:=FT (BEX m) (BEX n) (by omega) (by omega);exact aZ _ (by omega) (by omega)
def AEG (a b:Int):(if b<a then b else a)=min a b:=by omega
def AEF (a b:Int):(if a<b then b else a)=max a b:=by omega
def ST(a1:aN)(a0:aN)(a2:aN):T:=pPP (i64.wrap (i64.wrap (i64.wrap (a1.1-a0.1)*i64.wrap (a2.2-a0.2)) - i64.wrap (i64.wrap (a1.2-a0.2)*i64.wrap (a2.1-a0.1))))
def SB(a0:aN)(a1:aN)(a2:aN)(R:T->Prop):Prop:=R (ST a1 a0 a2)
abbrev WN:Sh:=[(true,aC),(true,aC),(true,aC)]
def DL (x:aN×aN×aN):Option T:=VD x.1 x.2.1 x.2.2 (T.v (Value.int .i64 (aR x.1 x.2.1 x.2.2)))
def hO:List T->Option T:=gS WN DL
def AKA {a0 a1 a2}:hO [aH true aC a0,aH true aC a1,aH true aC a2]=DL (a0,a1,a2):=a8 (s:=WN) rfl (a0,a1,a2) rfl
def A2S:Of3 Tryz.prog 379 hO DL (bR WN) SB:=MQ (a1:=(true,aC)) (a2:=(true,aC)) (a3:=(true,aC)) (Hs:=c0) (k:=8) (bM _) aV aY (aQ rfl) ⟨_,_,Tryz.func379,rfl⟩ rfl λ_ _ _ _=>by kernel_rfl
def CW:aT Tryz.prog 379 hO:=A2S λa b c r h hb=>by
 obtain ⟨h1,h2,h3,rfl⟩:=VE h;unfold SB ST;exact PT (XU h1 h2 h3)
def kO {a b c:Pt} (h1:dQ a) (h2:dQ b) (h3:dQ c):hO [aH true aC a,aH true aC b,aH true aC c]=some (Sh.enc [(false,.int .i64)] (aR a b c)):=(AKA ..).trans (VF _ h1 h2 h3)
def SJ(a0:aN)(a1:aN)(a2:aN)(R:T->Prop):Prop:=R (ST a1 a0 a2)
abbrev WW:Sh:=[(true,aC),(true,aC),(true,aC)]
def DR (x:aN×aN×aN):Option T:=VD x.1 x.2.1 x.2.2 (T.v (Value.int .i64 (aR x.1 x.2.1 x.2.2)))
def nX:List T->Option T:=gS WW DR
def AKS {a0 a1 a2}:nX [aH true aC a0,aH true aC a1,aH true aC a2]=DR (a0,a1,a2):=a8 (s:=WW) rfl (a0,a1,a2) rfl
def A20:Of3 Tryz.prog 382 nX DR (bR WW) SJ:=MQ (a1:=(true,aC)) (a2:=(true,aC)) (a3:=(true,aC)) (Hs:=c0) (k:=8) (bM _) aV aY (aQ rfl) ⟨_,_,Tryz.func382,rfl⟩ rfl λ_ _ _ _=>by kernel_rfl
def A0T:aT Tryz.prog 382 nX:=A20 λa b c r h hb=>by
 obtain ⟨h1,h2,h3,rfl⟩:=VE h;unfold SJ ST;exact PT (XU h1 h2 h3)
def tT {a b c:Pt} (h1:dQ a) (h2:dQ b) (h3:dQ c):nX [aH true aC a,aH true aC b,aH true aC c]=some (Sh.enc [(false,.int .i64)] (aR a b c)):=(AKS ..).trans (VF _ h1 h2 h3)
def AB6(a0:Int)(R:T->Prop):Prop:=aE (!decide (a0=a0)) (R (pPP (-1))) (aE (decide (a0<0)) (R (pPP (-1))) (aE (decide (0<a0)) (R (pPP 1)) (BTV R)))
abbrev AFM:Sh:=[(false,(Sy.int IntKind.i64))]
def J4 (n:Int):Option T:=some (T.v (Value.int .i64 (BX n)))
def q8:List T->Option T:=gS AFM J4
def ARE {a0}:q8 [pPP a0]=J4 (a0):=a8 (s:=AFM) rfl (a0) rfl
def BCX:lW Tryz.prog 396 q8 J4 (bR AFM) AB6:=eN (a1:=(false,(Sy.int IntKind.i64))) (Hs:=c0) (k:=8) (bM _) aV aY (aQ rfl) ⟨_,_,Tryz.func396,rfl⟩ rfl λ_ _=>by kernel_rfl
def x6 (n:Int):q8 [pPP n]=some (Sh.enc [(false,.int .i64)] (BX n)):=ARE ..
def AB7(a0:Int)(R:T->Prop):Prop:=R (pPP (if 1<if a0 < -1 then -1 else a0 then 1 else if a0 < -1 then -1 else a0))
abbrev AFQ:Sh:=[(false,(Sy.int IntKind.i64))]
def J6 (n:Int):Option T:=some (T.v (Value.int .i64 (BX n)))
def q9:List T->Option T:=gS AFQ J6
def ARH {a0}:q9 [pPP a0]=J6 (a0):=a8 (s:=AFQ) rfl (a0) rfl
def BC1:lW Tryz.prog 381 q9 J6 (bR AFQ) AB7:=eN (a1:=(false,(Sy.int IntKind.i64))) (Hs:=c0) (k:=8) (bM _) aV aY (aQ rfl) ⟨_,_,Tryz.func381,rfl⟩ rfl λ_ _=>by kernel_rfl
def x9 (n:Int):q9 [pPP n]=some (Sh.enc [(false,.int .i64)] (BX n)):=ARH ..
def A9B:aT Tryz.prog 396 q8:=BCX λn r h hb=>by
 cases h;unfold AB6 BTV;refine kD (λh=>absurd rfl h) λ_=>?_;exact b8 (λh=>PT (by unfold BX;rw[if_pos h])) λh=>b8 (λh2=>PT (by unfold BX;rw[if_neg h,if_pos h2])) λh2=>PT (by unfold BX;rw[if_neg h,if_neg h2])
def A9E:aT Tryz.prog 381 q9:=BC1 λn r h hb=>by
 cases h;unfold AB7;refine PT ?_;unfold BX;omega
def WP(a2:aN)(a0:aN)(a1:aN)(R:T->Prop):Prop:=aE (decide (a2.1<=if a0.1<a1.1 then a1.1 else a0.1)) (aE (decide ((if a1.2<a0.2 then a1.2 else a0.2)<=a2.2)) (R (pPR (decide (a2.2<=if a0.2<a1.2 then a1.2 else a0.2)))) (R d4)) (R d4)
def K2(a0:aN)(a1:aN)(a2:aN)(R:T->Prop):Prop:=aE (decide ((if a1.1<a0.1 then a1.1 else a0.1)<=a2.1)) (WP a2 a0 a1 R) (R d4)
abbrev NM:Sh:=[(true,aC),(true,aC),(true,aC)]
def yY (x:aN×aN×aN):Option T:=some (pPR (btw x.1 x.2.1 x.2.2))
def v7:List T->Option T:=gS NM yY
def ADU {a0 a1 a2}:v7 [aH true aC a0,aH true aC a1,aH true aC a2]=yY (a0,a1,a2):=a8 (s:=NM) rfl (a0,a1,a2) rfl
def ASM:Of3 Tryz.prog 397 v7 yY (bR NM) K2:=MQ (a1:=(true,aC)) (a2:=(true,aC)) (a3:=(true,aC)) (Hs:=c0) (k:=8) (bM _) aV aY (aQ rfl) ⟨_,_,Tryz.func397,rfl⟩ rfl λ_ _ _ _=>by kernel_rfl
def AQK:aT Tryz.prog 397 v7:=ASM λa b c r h hb=>by
 cases h;unfold K2 WP d4;rw[AEG,AEG,AEF,AEF];refine b8 (λh1=>b8 (λh2=>b8 (λh3=>iG ?_) λh3=>iG ?_) λh2=>iG ?_) λh1=>iG ?_
 all_goals simp[btw,h1]
 all_goals simp[h2]
 all_goals simp[h3]
def A6R(a0:aN)(a1:aN)(a2:aN)(R:T->Prop):Prop:=aE (decide ((if a1.1<a0.1 then a1.1 else a0.1)<=a2.1)) (WP a2 a0 a1 R) (R d4)
abbrev BES:Sh:=[(true,aC),(true,aC),(true,aC)]
abbrev AV8:Sh:=[(false,Sy.bool)]
def ASX (y:Sh.den AV8) (K:Sh.den AV8->Prop):aJ AV8 (some (Sh.enc AV8 y)) K=K y:=oL rfl y K
def XJ (x:aN×aN×aN):Option T:=some (pPR (btw x.1 x.2.1 x.2.2))
def fN:List T->Option T:=gS BES XJ
def BA0 {a0 a1 a2}:fN [aH true aC a0,aH true aC a1,aH true aC a2]=XJ (a0,a1,a2):=a8 (s:=BES) rfl (a0,a1,a2) rfl
def BPY:Of3 Tryz.prog 383 fN XJ (bR BES) A6R:=MQ (a1:=(true,aC)) (a2:=(true,aC)) (a3:=(true,aC)) (Hs:=c0) (k:=8) (bM _) aV aY (aQ rfl) ⟨_,_,Tryz.func383,rfl⟩ rfl λ_ _ _ _=>by kernel_rfl
def BNZ:aT Tryz.prog 383 fN:=BPY λa b c r h hb=>by
 cases h;unfold A6R WP d4;rw[AEG,AEG,AEF,AEF];refine b8 (λh1=>b8 (λh2=>b8 (λh3=>iG ?_) λh3=>iG ?_) λh2=>iG ?_) λh1=>iG ?_
 all_goals simp[btw,h1]
 all_goals simp[h2]
 all_goals simp[h3]
def BQ7:Env:=Env.of [(379,.pure hO),(397,.pure v7)]
def BGU:bB Tryz.prog BQ7:=.cons CW (.cons AQK (.nil _))
def H1(a0:aN)(a1:aN)(a2:aN):List T:=[aH true aC a0,aH true aC a1,aH true aC a2]
def A6G(a0:aN)(a1:aN)(a2:aN)(R:T->Prop):Prop:=aJ d8 (hO (H1 a0 a1 a2)) λ(y0:Int)=>aE (decide (y0=0)) (aJ d5 (v7 (H1 a0 a1 a2)) λ(y1:Bool)=>R (pPR y1)) (R d4)
abbrev BER:Sh:=[(true,aC),(true,aC),(true,aC)]
def AGG (x:aN×aN×aN):Option T:=VD x.1 x.2.1 x.2.2 (pPR (tC x.1 x.2.1 x.2.2))
def A8:List T->Option T:=gS BER AGG
def BAT {a0 a1 a2}:A8 [aH true aC a0,aH true aC a1,aH true aC a2]=AGG (a0,a1,a2):=a8 (s:=BER) rfl (a0,a1,a2) rfl
def BPS:Of3 Tryz.prog 384 A8 AGG (bR BER) A6G:=MQ (a1:=(true,aC)) (a2:=(true,aC)) (a3:=(true,aC)) (Hs:=c0) (k:=8) BGU aV aY (aQ rfl) ⟨_,_,Tryz.func384,rfl⟩ rfl λ_ _ _ _=>by kernel_rfl
def A9A:aT Tryz.prog 384 A8:=BPS λa b c r h hb=>by
 obtain ⟨h1,h2,h3,rfl⟩:=VE h;unfold A6G H1 d8 d5 d4;refine aM (s:=[(false,.int .i64)]) (kO h1 h2 h3) ?_;refine b8 (λh=>?_) λh=>iG (by unfold tC;rw[aj h];rfl);refine aM (s:=[(false,.bool)]) (y:=btw a b c) (ADU ..) ?_;exact iG (by unfold tC;rw[ai h];rfl)
def A9 {a b c:Pt} (h1:dQ a) (h2:dQ b) (h3:dQ c):A8 [aH true aC a,aH true aC b,aH true aC c]=some (Sh.enc [(false,.bool)] (tC a b c)):=(BAT ..).trans (VF _ h1 h2 h3)
def Z5 (a b c d:Pt) (r:α):Option α:=match decide (dQ a/\dQ b/\dQ c/\dQ d) with
 | true=>some r
 | false=>none
def ALM {a b c d:Pt} {t r:α} (h:Z5 a b c d t=some r):dQ a/\dQ b/\dQ c/\dQ d/\r=t:=by
 unfold Z5 at h;split at h
 ·rename_i hc;cases h;obtain ⟨h1,h2,h3,h4⟩:=of_decide_eq_true hc;exact ⟨h1,h2,h3,h4,rfl⟩
 ·cases h
def ALN {a b c d:Pt} (t:α) (ha:dQ a) (hb:dQ b) (hc:dQ c) (hd:dQ d):Z5 a b c d t=some t:=by unfold Z5;rw[ai ⟨ha,hb,hc,hd⟩]
def BF7:Env:=Env.of [(379,.pure hO),(384,.pure A8),(396,.pure q8)]
def AYH:bB Tryz.prog BF7:=.cons CW (.cons A9A (.cons A9B (.nil _)))
def t8(a0:aN)(a1:aN)(a3:aN):List T:=[aH true aC a0,aH true aC a1, aH true aC a3]
def BTZ(y4:Int):List T:=[pPP y4]
def AB5(a0:aN)(a1:aN)(a2:aN)(a3:aN)(R:T->Prop):Prop:=aJ d5 (A8 (H1 a0 a1 a2)) λ(y0:Bool)=>aE y0 (R d7) (aJ d5 (A8 (H1 a0 a1 a3)) λ(y1:Bool)=>aE y1 (R d7) (aJ d5 (A8 (H1 a2 a3 a0)) λ(y2:Bool)=>aE y2 (R d7) (aJ d5 (A8 (H1 a2 a3 a1)) λ(y3:Bool)=>aE y3 (R d7) (aJ d8 (hO (H1 a0 a1 a2)) λ(y4:Int)=>aJ d8 (q8 (BTZ y4)) λ(y5:Int)=>aJ d8 (hO (t8 a0 a1 a3)) λ(y6:Int)=>aJ d8 (q8 (BTZ y6)) λ(y7:Int)=>aE (decide (i64.wrap (y5*y7)<0)) (aJ d8 (hO (t8 a2 a3 a0)) λ(y8:Int)=>aJ d8 (q8 (BTZ y8)) λ(y9:Int)=>aJ d8 (hO (t8 a2 a3 a1)) λ(y10:Int)=>aJ d8 (q8 (BTZ y10)) λ(y11:Int)=>R (pPR (decide (i64.wrap (y9*y11)<0)))) (R d4)))))
abbrev AFL:Sh:=[(true,aC),(true,aC),(true,aC),(true,aC)]
def J3 (x:aN×aN×aN×aN):Option T:=Z5 x.1 x.2.1 x.2.2.1 x.2.2.2 (pPR (dM x.1 x.2.1 x.2.2.1 x.2.2.2))
def tQ:List T->Option T:=gS AFL J3
def ARC {a0 a1 a2 a3}:tQ [aH true aC a0,aH true aC a1,aH true aC a2,
 aH true aC a3]=J3 (a0,a1,a2,a3):=a8 (s:=AFL) rfl (a0,a1,a2,a3) rfl
def BCW:Of4 Tryz.prog 380 tQ J3 (bR AFL) AB5:=BI5 (a1:=(true,aC)) (a2:=(true,aC)) (a3:=(true,aC)) (a4:=(true,aC)) (Hs:=c0) (k:=8) AYH aV aY (aQ rfl) ⟨_,_,Tryz.func380,rfl⟩ rfl λ_ _ _ _ _=>by kernel_rfl
def A89:aT Tryz.prog 380 tQ:=BCW λa b c d r h hb=>by
 obtain ⟨h1,h2,h3,h4,rfl⟩:=ALM h;unfold AB5 BTZ H1 t8 d8 d7 d5 d4;refine aM (s:=[(false,.bool)]) (A9 h1 h2 h3) ?_;refine zQ (λh=>iG (by unfold dM;rw[h];rfl)) λk1=>?_;refine aM (s:=[(false,.bool)]) (A9 h1 h2 h4) ?_;refine zQ (λh=>iG (by unfold dM;rw[h,k1];rfl)) λk2=>?_;refine aM (s:=[(false,.bool)]) (A9 h3 h4 h1) ?_;refine zQ (λh=>iG (by unfold dM;rw[h,k1,k2];rfl)) λk3=>?_;refine aM (s:=[(false,.bool)]) (A9 h3 h4 h2) ?_;refine zQ (λh=>iG (by unfold dM;rw[h,k1,k2,k3];rfl)) λk4=>?_;refine aM (s:=[(false,.int .i64)]) (kO h1 h2 h3) ?_;refine aM (s:=[(false,.int .i64)]) (x6 _) ?_;refine aM (s:=[(false,.int .i64)]) (kO h1 h2 h4) ?_;refine aM (s:=[(false,.int .i64)]) (x6 _) ?_;rw[KJ];refine b8 (λh=>?_) λh=>iG (by unfold dM;rw[k1,k2,k3,k4,aj h];rfl);refine aM (s:=[(false,.int .i64)]) (kO h3 h4 h1) ?_;refine aM (s:=[(false,.int .i64)]) (x6 _) ?_;refine aM (s:=[(false,.int .i64)]) (kO h3 h4 h2) ?_;refine aM (s:=[(false,.int .i64)]) (x6 _) ?_;rw[KJ];exact iG (by unfold dM;rw[k1,k2,k3,k4,ai h];rfl)
def ARD {a b c d:Pt} (h1:dQ a) (h2:dQ b) (h3:dQ c) (h4:dQ d):tQ [aH true aC a,aH true aC b,aH true aC c,aH true aC d]=some (Sh.enc [(false,.bool)] (dM a b c d)):=(ARC ..).trans (ALN _ h1 h2 h3 h4)
def AO3(a0:aN)(R:T->Prop):Prop:=aE (decide (a0.1 < -32768)) (R d7) (aE (decide (32768<a0.1)) (R d7) (aE (decide (a0.2 < -32768)) (R d7) (R (pPR (decide (32768<a0.2))))))
abbrev ATC:Sh:=[(true,aC)]
def Q1 (q:aN):Option T:=some (pPR (!decide (dQ q)))
def FN:List T->Option T:=gS ATC Q1
def ZP {a0}:FN [aH true aC a0]=Q1 (a0):=a8 (s:=ATC) rfl (a0) rfl
def BJL:lW Tryz.prog 357 FN Q1 (bR ATC) AO3:=eN (a1:=(true,aC)) (Hs:=c0) (k:=8) (bM _) aV aY (aQ rfl) ⟨_,_,Tryz.func357,rfl⟩ rfl λ_ _=>by kernel_rfl
def AU2:aT Tryz.prog 357 FN:=BJL λq r h hb=>by
 cases h;unfold AO3 d7;have no:¬ dQ q->true = !decide (dQ q):=λh=>by rw[aj h];rfl
 refine b8 (λh=>iG (no (by unfold dQ;omega))) λh1=>b8 (λh=>iG (no (by unfold dQ;omega))) λh2=>b8 (λh=>iG (no (by unfold dQ;omega))) λh3=>iG ?_;by_cases h:dQ q
 ·rw[ai h,Bool.not_true];unfold dQ at h;exact aj (by omega)
 ·rw[aj h,Bool.not_false];unfold dQ at h;exact ai (by omega)
def BEY {n:Int}:BX n=0↔n=0:=by
 unfold BX;split
 ·omega
 ·split<;>omega
def A4T:Env:=Env.of [(382,.pure nX),(381,.pure q9),(383,.pure fN)]
def AOL:bB Tryz.prog A4T:=.cons A0T (.cons A9E (.cons BNZ (.nil _)))
def RK(y5:Int)(a2:aN)(a3:aN)(a0:aN)(R:T->Prop)(y7:Int)(a1:aN):Prop:=aE (decide (y5=0)) (aJ d5 (fN (t8 a2 a3 a0)) λ(y10:Bool)=>aE y10 (R d7) (aE (decide (y7=0)) (aJ d5 (fN (t8 a2 a3 a1)) λ(y11:Bool)=>R (pPR y11)) (R d4))) (aE (decide (y7=0)) (aJ d5 (fN (t8 a2 a3 a1)) λ(y12:Bool)=>R (pPR y12)) (R d4))
def f7(y3:Int)(a0:aN)(a1:aN)(a3:aN)(R:T->Prop)(y5:Int)(a2:aN)(y7:Int):Prop:=aE (decide (y3=0)) (aJ d5 (fN (t8 a0 a1 a3)) λ(y9:Bool)=>aE y9 (R d7) (RK y5 a2 a3 a0 R y7 a1)) (RK y5 a2 a3 a0 R y7 a1)
def SL(a0:aN)(a1:aN)(a2:aN)(a3:aN)(R:T->Prop):Prop:=aJ d8 (nX (H1 a0 a1 a2)) λ(y0:Int)=>aJ d8 (q9 (BTZ y0)) λ(y1:Int)=>aJ d8 (nX (H1 a0 a1 a3)) λ(y2:Int)=>aJ d8 (q9 (BTZ y2)) λ(y3:Int)=>aJ d8 (nX (H1 a2 a3 a0)) λ(y4:Int)=>aJ d8 (q9 (BTZ y4)) λ(y5:Int)=>aJ d8 (nX (H1 a2 a3 a1)) λ(y6:Int)=>aJ d8 (q9 (BTZ y6)) λ(y7:Int)=>aE (decide (i64.wrap (y1*y3)<0)) (aE (decide (i64.wrap (y5*y7)<0)) (R d7) (aE (decide (y1=0)) (aJ d5 (fN (t8 a0 a1 a2)) λ(y8:Bool)=>aE y8 (R d7) (f7 y3 a0 a1 a3 R y5 a2 y7)) (f7 y3 a0 a1 a3 R y5 a2 y7))) (aE (decide (y1=0)) (aJ d5 (fN (t8 a0 a1 a2)) λ(y23:Bool)=>aE y23 (R d7) (f7 y3 a0 a1 a3 R y5 a2 y7)) (f7 y3 a0 a1 a3 R y5 a2 y7))
abbrev WX:Sh:=[(true,aC),(true,aC),(true,aC),(true,aC)]
def DS (x:aN×aN×aN×aN):Option T:=Z5 x.1 x.2.1 x.2.2.1 x.2.2.2 (pPR (dM x.1 x.2.1 x.2.2.1 x.2.2.2))
def BC:List T->Option T:=gS WX DS
def AKZ {a0 a1 a2 a3}:BC [aH true aC a0,aH true aC a1,aH true aC a2,
 aH true aC a3]=DS (a0,a1,a2,a3):=a8 (s:=WX) rfl (a0,a1,a2,a3) rfl
def A22:Of4 Tryz.prog 361 BC DS (bR WX) SL:=BI5 (a1:=(true,aC)) (a2:=(true,aC)) (a3:=(true,aC)) (a4:=(true,aC)) (Hs:=c0) (k:=8) AOL aV aY (aQ rfl) ⟨_,_,Tryz.func361,rfl⟩ rfl λ_ _ _ _ _=>by kernel_rfl
def BD5 (a b c:Pt) (K:Bool->Prop):aJ [(false,Sy.bool)] (fN [aH true aC a,aH true aC b,aH true aC c]) K=K (btw a b c):=by
 rw[show fN [aH true aC a,aH true aC b,aH true aC c]=XJ (a,b,c) from BA0 ..];exact ASX _ K
def A0U:aT Tryz.prog 361 BC:=A22 λa b c d r h hb=>by
 obtain ⟨h1,h2,h3,h4,rfl⟩:=ALM h;unfold SL BTZ H1 f7 RK t8 d8 d7 d5 d4;refine aM (s:=[(false,.int .i64)]) (tT h1 h2 h3) ?_;refine aM (s:=[(false,.int .i64)]) (x9 _) ?_;refine aM (s:=[(false,.int .i64)]) (tT h1 h2 h4) ?_;refine aM (s:=[(false,.int .i64)]) (x9 _) ?_;refine aM (s:=[(false,.int .i64)]) (tT h3 h4 h1) ?_;refine aM (s:=[(false,.int .i64)]) (x9 _) ?_;refine aM (s:=[(false,.int .i64)]) (tT h3 h4 h2) ?_;refine aM (s:=[(false,.int .i64)]) (x9 _) ?_;rw[KJ,KJ];have e:∀ {n:Bool},dM a b c d=n->pPR n=pPR (dM a b c d):=λh=>by rw[h]
 simp only[BD5];unfold dM at e;unfold tC at e;clear h hb
 repeat' first
  | refine b8 (λh=>?_) (λh=>?_)
  | refine zQ (λh=>?_) (λh=>?_)
 all_goals (refine e ?_;clear e;simp only[BEY] at *;simp[*,show BX 0=0 from rfl])
end Go.Pv
namespace Go.Pv
open Go Go.Proofs IntKind
def VX {p:List Pt} {i:Nat} (h:i<p.length):pt p i=p[i]:=by unfold pt;rw[List.getD_eq_getElem?_getD,List.getElem?_eq_getElem h];rfl
def gJ {p:List aN} {k:Nat} (h:k<p.length) (K:aN->Prop):aU aC (List.map aC.enc p) (k:Int) K=K (pt p k):=by
 rw[bA (r:=aC) h,VX h]
def yD {i n c:Nat} (hn:n<=1000) (hi:i<=1000) (hc:c<=2):(i64.wrap ((i:Int)+(c:Int))).tmod (n:Int)=(((i+c) % n:Nat):Int):=by
 rw[aZ _ (by omega) (by omega),Int.tmod_eq_emod_of_nonneg (by omega),Int.natCast_emod,Int.natCast_add]
def qX (a b c:Pt):Int:=(a.1-b.1)*(c.1-b.1)+(a.2-b.2)*(c.2-b.2)
def MS (p:List Pt) (i k:Nat):Bool:=!(!decide ((k+1) % p.length=i)&&dM (pt p i) (nx p i) (pt p k) (nx p k))
def D3 (p:List Pt) (i:Nat):Pt:=pt p ((i+2) % p.length)
def AEJ (p:List Pt) (i:Nat):Bool:=!decide (pt p i=nx p i)&&(!(decide (aR (pt p i) (nx p i) (D3 p i)=0)&&decide (0<qX (pt p i) (nx p i) (D3 p i)))&&(List.range p.length).all λk=>decide (k<i+2)||MS p i k)
def wU (p:List Pt):Bool:=(List.range p.length).all (AEJ p)
def lP (p:List Pt):Prop:=∀ q∈p,dQ q
def VG (p:List Pt):Bool:=p.all λq=>decide (dQ q)
def oS {p:List Pt}:VG p=true↔lP p:=by
 simp only[VG,List.all_eq_true,ah];exact Iff.rfl
def lP.pt {p:List Pt} (h:lP p) (i:Nat):dQ (pt p i):=by
 rcases Nat.lt_or_ge i p.length with hi|hi
 ·rw[VX hi];exact h _ (ak hi)
 ·unfold Go.Pv.pt;rw[List.getD_eq_getElem?_getD,List.getElem?_eq_none hi];unfold dQ;decide
def YQ (p:List Pt):Bool:=decide (p.length<=1000)&&VG p
variable {α:Type}
def AAD (p:List Pt) (r:α):Option α:=match YQ p with
 | true=>some r
 | false=>none
def AL6 {p:List Pt} {t r:α} (h:AAD p t=some r):p.length<=1000/\lP p/\r=t:=by
 unfold AAD at h;split at h
 ·rename_i hc;simp only[YQ,ac,ah,oS] at hc;cases h;exact ⟨hc.1,hc.2,rfl⟩
 ·cases h
def AL7 {p:List Pt} (t:α) (h:p.length<=1000) (h2:lP p):AAD p t=some t:=by
 unfold AAD;rw[show YQ p=true by simp only[YQ,ac,ah,oS];exact ⟨h,h2⟩]
def BFQ {a b c:Pt} (ha:dQ a) (hb:dQ b) (hc:dQ c):i64.wrap (i64.wrap (i64.wrap (a.1-b.1)*i64.wrap (c.1-b.1))+i64.wrap (i64.wrap (a.2-b.2)*i64.wrap (c.2-b.2)))=qX a b c:=by
 unfold dQ at ha hb hc;have h1:=FT (x:=a.1-b.1) (y:=c.1-b.1) (M:=65536) (N:=65536) (by omega) (by omega) (by omega) (by omega);have h2:=FT (x:=a.2-b.2) (y:=c.2-b.2) (M:=65536) (N:=65536) (by omega) (by omega) (by omega) (by omega);rw[aZ (a.1-b.1) (by omega) (by omega),aZ (c.2-b.2) (by omega) (by omega),aZ (a.2-b.2) (by omega) (by omega),aZ (c.1-b.1) (by omega) (by omega),
  aZ ((a.1-b.1)*(c.1-b.1)) (by omega) (by omega),aZ ((a.2-b.2)*(c.2-b.2)) (by omega) (by omega),aZ _ (by omega) (by omega)]
 rfl
def AXY:Env:=Env.of [(379,.pure hO),(380,.pure tQ)]
def AY4:FuncId->Hint:=bP 358 [(3,.inv [.val 13 false (.int .i64)]),(12,.inv [.val 8 false (.int .i64)])] (λ_=>bH)
def AHF:bB Tryz.prog AXY:=.cons CW (.cons A89 (.nil _))
def m8(a0:List aN)(s1:Int×PUnit)(y2:aN)(y3:aN)(R:T->Prop)(X0:Int×PUnit->Prop):Prop:=a7 (Int×PUnit) (λX6 s7=>aE (decide (s7.1<(↑(i7 a0).length:Int))) (bO (!decide ((↑(i7 a0).length:Int)=0)) (aE (!decide ((i64.wrap (s7.1+1)).tmod (↑(i7 a0).length:Int) = s1.1)) (aU aC (i7 a0) s7.1 λ(y8:aN)=>bO (!decide ((↑(i7 a0).length:Int)=0)) (aU aC (i7 a0) ((i64.wrap (s7.1+1)).tmod (↑(i7 a0).length:Int)) λ(y9:aN)=>aJ d5 (tQ [aH true aC y2,aH true aC y3, aH true aC y8,aH true aC y9]) λ(y10:Bool)=>aE y10 (R d4) (g9 X6 s7))) (g9 X6 s7))) (g9 X0 s1)) (i64.wrap (s1.1+2),())
def K0(a0:List aN)(R:T->Prop):Prop:=a7 (Int×PUnit) (λX0 s1=>aE (decide (s1.1<(↑(i7 a0).length:Int))) (aU aC (i7 a0) s1.1 λ(y2:aN)=>bO (!decide ((↑(i7 a0).length:Int)=0)) (aU aC (i7 a0) ((i64.wrap (s1.1+1)).tmod (↑(i7 a0).length:Int)) λ(y3:aN)=>aE (decide (y2.1=y3.1)&&(decide (y2.2=y3.2)&&true)) (R d4) (bO (!decide ((↑(i7 a0).length:Int)=0)) (aU aC (i7 a0) ((i64.wrap (s1.1+2)).tmod (↑(i7 a0).length:Int)) λ(y4:aN)=>aJ d8 (hO (t8 y2 y3 y4)) λ(y5:Int)=>aE (decide (y5=0)) (aE (decide (0 < i64.wrap (i64.wrap (i64.wrap (y2.1-y3.1)*i64.wrap (y4.1-y3.1)) + i64.wrap (i64.wrap (y2.2-y3.2)*i64.wrap (y4.2-y3.2))))) (R d4) (m8 a0 s1 y2 y3 R X0)) (m8 a0 s1 y2 y3 R X0))))) (R d7)) (0,())
abbrev NK:Sh:=[(false,aC.li)]
def yW (p:List aN):Option T:=AAD p (pPR (wU p))
def oP:List T->Option T:=gS NK yW
def ADR {a0}:oP [T.sl false (List.map aC.enc a0)]=yW (a0):=a8 (s:=NK) rfl (a0) rfl
def ASK:lW Tryz.prog 358 oP yW (bR NK) K0:=eN (a1:=(false,aC.li)) (Hs:=AY4) (k:=8) AHF aV aY (aQ rfl) ⟨_,_,Tryz.func358,rfl⟩ rfl λ_ _=>by kernel_rfl
def ACG {n:Nat} {f:Nat->Bool} {i:Nat} (hi:i<n) (h:f i=false):(List.range n).all f=false:=by
 rw[Bool.eq_false_iff];intro ha;have:=lB.1 ha i hi;rw[h] at this;cases this
def A3R {p:List aN} {i:Nat} (hl:p.length<=1000) (hn:lP p) (hi:i<p.length) {Bad Good:Prop} (hbad:(List.range p.length).all (λk=>decide (k<i+2)||MS p i k)=false->Bad) (hgood:(List.range p.length).all (λk=>decide (k<i+2)||MS p i k)=true->Good) :
  a7 (Int×PUnit)
   (λ(X6:Int×PUnit->Prop) (s7:Int×PUnit) =>
    aE (decide (s7.1<(↑(List.map aC.enc p).length:Int)))
     (bO (!decide ((↑(List.map aC.enc p).length:Int)=0))
      (aE (!decide ((i64.wrap (s7.1+1)).tmod (↑(List.map aC.enc p).length:Int)=(i:Int)))
       (aU aC (List.map aC.enc p) s7.1 λ(y8:aN) =>
        bO (!decide ((↑(List.map aC.enc p).length:Int)=0))
         (aU aC (List.map aC.enc p) ((i64.wrap (s7.1+1)).tmod (↑(List.map aC.enc p).length:Int))
          λ(y9:aN) =>
          aJ [(false,Sy.bool)] (tQ [aH true aC (pt p i),aH true aC (nx p i),aH true aC y8,aH true aC y9])
           λ(y10:Bool)=>aE y10 Bad (X6 (i64.wrap (s7.1+1),()))))
       (X6 (i64.wrap (s7.1+1),()))))
     Good)
   (i64.wrap ((i:Int)+2),()):=by
 refine bJ p.length (λm s=>s=(((i+2+m:Nat):Int),())/\∀ k,k<i+2+m->k<p.length->(decide (k<i+2)||MS p i k)=true) ⟨by rw[aZ _ (by omega) (by omega)];simp,λk h1 h2=>by simp at h1;simp[h1]⟩ ?_;rintro X m s hm ⟨rfl,hJ⟩ hX;dsimp only;rw[ae];refine b8 (λhlt=>?_) λhge=>hgood (lB.2 λk hk=>hJ k (by omega) hk);have hk:i+2+m<p.length:=by omega
 have hne:(!decide ((p.length:Int)=0))=true:=by rw[aj (by omega)];rfl
 have hix:(i64.wrap (((i+2+m:Nat):Int)+1)).tmod (p.length:Int)=(((i+2+m+1) % p.length:Nat):Int):=yD (c:=1) hl (by omega) (by omega);have hw:i64.wrap (((i+2+m:Nat):Int)+1)=((i+2+(m+1):Nat):Int):=by rw[aZ _ (by omega) (by omega)];omega
 have hmod:(i+2+m+1) % p.length<p.length:=Nat.mod_lt _ (by omega);have go:MS p i (i+2+m)=true->X (((i+2+(m+1):Nat):Int),()):=λh=>hX _ (by omega) ⟨rfl,λk h1 h2=>by
  rcases Nat.lt_or_ge k (i+2+m) with h3|h3
  ·exact hJ k h3 h2
  ·have:k=i+2+m:=by omega
   subst this;rw[h];simp⟩
 refine ⟨hne,?_⟩;rw[hix,hw];refine kD (λh=>?_) λh=>go (by unfold MS;rw[ai (show (i+2+m+1) % p.length=i by omega)];rfl);rw[gJ hk,BDZ,gJ hmod];refine ⟨hne,?_⟩;refine aM (s:=[(false,.bool)]) (ARD (hn.pt _) (hn.pt _) (hn.pt _) (hn.pt _)) ?_;have e:MS p i (i+2+m) = !dM (pt p i) (nx p i) (pt p (i+2+m)) (nx p (i+2+m)):=by
  unfold MS;rw[aj (show ¬ (i+2+m+1) % p.length=i by omega)];rfl
 refine zQ (λhm=>hbad (ACG hk ?_)) λhm=>go ?_
 ·show (decide (i+2+m<i+2)||MS p i (i+2+m))=false;rw[e,show dM (pt p i) (nx p i) (pt p (i+2+m)) (nx p (i+2+m))=true from hm];simp
 ·rw[e,show dM (pt p i) (nx p i) (pt p (i+2+m)) (nx p (i+2+m))=false from hm];rfl
def AQJ:aT Tryz.prog 358 oP:=ASK λp r h hb=>by
 obtain ⟨hl,hn,rfl⟩:=AL6 h;clear h;unfold K0 m8 i7 g9 t8 d8 d7 d5 d4;refine bJ p.length (λk s=>s=((k:Int),())/\∀ i,i<k->i<p.length->AEJ p i=true) ⟨rfl,λi h=>by omega⟩ ?_;rintro X k s hk ⟨rfl,hJ⟩ hX;dsimp only;refine b8 (λhlt=>?_) λhge=>iG (Eq.symm (lB.2 λi hi=>hJ i (by rw[ae] at hge;omega) hi));rw[ae] at hlt;have hlt:k<p.length:=by omega
 have hne:(!decide (((List.map aC.enc p).length:Int)=0))=true:=by rw[ae,aj (by omega)];rfl
 have hm1:(k+1) % p.length<p.length:=Nat.mod_lt _ (by omega);have hm2:(k+2) % p.length<p.length:=Nat.mod_lt _ (by omega);have i1:(i64.wrap ((k:Int)+1)).tmod ((List.map aC.enc p).length:Int)=(((k+1) % p.length:Nat):Int):=by rw[ae];exact yD (c:=1) hl (by omega) (by omega)
 have i2:(i64.wrap ((k:Int)+2)).tmod ((List.map aC.enc p).length:Int)=(((k+2) % p.length:Nat):Int):=by rw[ae];exact yD (c:=2) hl (by omega) (by omega)
 have bad:AEJ p k=false->pPR false=pPR (wU p):=λh=>iG (ACG hlt h).symm;have yB:AEJ p k=true->X (i64.wrap ((k:Int)+1),()):=λh=>hX _ hlt ⟨by rw[show i64.wrap ((k:Int)+1)=((k+1:Nat):Int) from aZ _ (by omega) (by omega)],λi h1 h2=>by
  rcases Nat.lt_or_ge i k with h3|h3
  ·exact hJ i h3 h2
  ·have:i=k:=by omega
   subst this;exact h⟩
 rw[gJ hlt,i1];refine ⟨hne,?_⟩;rw[gJ hm1];have heq:(decide ((pt p k).1=(pt p ((k+1) % p.length)).1)&&(decide ((pt p k).2=(pt p ((k+1) % p.length)).2)&&true))=decide (pt p k=nx p k):=by
  rw[Bool.and_true,<-Bool.decide_and];exact decide_eq_decide.2 Prod.ext_iff.symm
 rw[heq];refine b8 (λh=>bad (by unfold AEJ;rw[ai h];rfl)) λh1=>?_;refine ⟨hne,?_⟩;rw[i2,gJ hm2];refine aM (s:=[(false,.int .i64)]) (kO (hn.pt _) (hn.pt _) (hn.pt _)) ?_;have inner:(decide (aR (pt p k) (nx p k) (D3 p k)=0)&&decide (0<qX (pt p k) (nx p k) (D3 p k)))=false->AEJ p k=(List.range p.length).all λj=>decide (j<k+2)||MS p k j:=λh=>by
  unfold AEJ;rw[aj h1,h];simp
 have tail:(decide (aR (pt p k) (nx p k) (D3 p k)=0)&&decide (0<qX (pt p k) (nx p k) (D3 p k)))=false->_:=λh=>A3R (Bad:=pPR false=pPR (wU p)) (Good:=X (i64.wrap ((k:Int)+1),())) hl hn hlt (λh2=>bad (by rw[inner h,h2])) (λh2=>yB (by rw[inner h,h2]));refine b8 (λh2=>?_) λh2=>tail (by rw[show decide (aR (pt p k) (nx p k) (D3 p k)=0)=false from aj h2];rfl);rw[BFQ (hn.pt _) (hn.pt _) (hn.pt _)];refine b8 (λh3=>bad ?_) λh3=>tail (by rw[show decide (0<qX (pt p k) (nx p k) (D3 p k))=false from aj h3];simp);unfold AEJ;rw[ai (show aR (pt p k) (nx p k) (D3 p k)=0 from h2),ai (show 0<qX (pt p k) (nx p k) (D3 p k) from h3)];simp
def ADS {p:List Pt} (h:p.length<=1000) (h2:lP p):oP [T.sl false (List.map aC.enc p)]=some (Sh.enc [(false,.bool)] (wU p)):=(ADR ..).trans (AL7 _ h h2)
def eJ:Nat->(Nat->Int)->Int
 | 0,_=>0
 | n+1,f=>eJ n f+f n
def AMZ (p:List Pt) (i:Nat):Int:=(pt p i).1*(nx p i).2-(nx p i).1*(pt p i).2
def iL (p:List Pt):Int:=eJ p.length (AMZ p)
def AWJ {p:List Pt} (h:lP p) (i:Nat):(-1073741824<=(pt p i).1*(nx p i).2/\(pt p i).1*(nx p i).2<=1073741824)/\(-1073741824<=(nx p i).1*(pt p i).2/\(nx p i).1*(pt p i).2<=1073741824):=by
 have h1:=h.pt i;have h2:dQ (nx p i):=h.pt _;unfold dQ at h1 h2;have b1:=FT (x:=(pt p i).1) (y:=(nx p i).2) (M:=32768) (N:=32768) (by omega) (by omega) (by omega) (by omega);have b2:=FT (x:=(nx p i).1) (y:=(pt p i).2) (M:=32768) (N:=32768) (by omega) (by omega) (by omega) (by omega);constructor<;>constructor<;>omega
def QF {p:List Pt} (h:lP p):∀ n:Nat,-(2147483648*(n:Int))<=eJ n (AMZ p)/\eJ n (AMZ p)<=2147483648*(n:Int)
 | 0=>by simp[eJ]
 | n+1=>by
  have ih:=QF h n;have hb:=AWJ h n;unfold eJ;have e:AMZ p n=(pt p n).1*(nx p n).2-(nx p n).1*(pt p n).2:=rfl;constructor<;>push_cast<;>omega
def BG4:FuncId->Hint:=bP 359 [(3,.inv [.val 3 false (.int .i64),.val 9 false (.int .i64)])] (λ_=>bH)
def AB1(a0:List aN)(R:T->Prop):Prop:=a7 (Int×Int×PUnit) (λX0 s1=>aE (decide (s1.2.1<(↑(i7 a0).length:Int))) (aU aC (i7 a0) s1.2.1 λ(y2:aN)=>bO (!decide ((↑(i7 a0).length:Int)=0)) (aU aC (i7 a0) ((i64.wrap (s1.2.1+1)).tmod (↑(i7 a0).length:Int)) λ(y3:aN)=>X0 (i64.wrap (s1.1 + i64.wrap (i64.wrap (y2.1*y3.2)-i64.wrap (y3.1*y2.2))), i64.wrap (s1.2.1+1),()))) (R (pPP s1.1))) (0,0,())
abbrev AFF:Sh:=[(false,aC.li)]
def J1 (p:List aN):Option T:=AAD p (T.v (Value.int .i64 (iL p)))
def qZ:List T->Option T:=gS AFF J1
def AQ9 {a0}:qZ [T.sl false (List.map aC.enc a0)]=J1 (a0):=a8 (s:=AFF) rfl (a0) rfl
def BCQ:lW Tryz.prog 359 qZ J1 (bR AFF) AB1:=eN (a1:=(false,aC.li)) (Hs:=BG4) (k:=8) (bM _) aV aY (aQ rfl) ⟨_,_,Tryz.func359,rfl⟩ rfl λ_ _=>by kernel_rfl
def AI6:aT Tryz.prog 359 qZ:=BCQ λp r h hb=>by
 obtain ⟨hl,hn,rfl⟩:=AL6 h;clear h;unfold AB1 i7;refine bJ p.length (λk s=>s=(eJ k (AMZ p),(k:Int),())) rfl ?_;rintro X k s hk rfl hX;dsimp only;refine b8 (λhlt=>?_) λhge=>PT (by rw[ae] at hge;rw[show k=p.length by omega];rfl);rw[ae] at hlt;have hlt:k<p.length:=by omega
 have hne:(!decide (((List.map aC.enc p).length:Int)=0))=true:=by rw[ae,aj (by omega)];rfl
 have hm1:(k+1) % p.length<p.length:=Nat.mod_lt _ (by omega);have i1:(i64.wrap ((k:Int)+1)).tmod ((List.map aC.enc p).length:Int)=(((k+1) % p.length:Nat):Int):=by rw[ae];exact yD (c:=1) hl (by omega) (by omega)
 rw[gJ hlt,i1];refine ⟨hne,?_⟩;rw[gJ hm1];have hb1:=AWJ hn k;have hb2:=QF hn k;have hb3:=QF hn (k+1);refine hX _ hlt ?_;rw[show i64.wrap ((k:Int)+1)=((k+1:Nat):Int) from aZ _ (by omega) (by omega)];have e:i64.wrap (eJ k (AMZ p)+i64.wrap (i64.wrap ((pt p k).1*(nx p k).2)-i64.wrap ((nx p k).1*(pt p k).2)))=eJ (k+1) (AMZ p):=by
  rw[aZ ((pt p k).1*(nx p k).2) (by omega) (by omega),aZ ((nx p k).1*(pt p k).2) (by omega) (by omega),aZ ((pt p k).1*(nx p k).2-(nx p k).1*(pt p k).2) (by omega) (by omega),aZ _ (by omega) (by omega)];rfl
 rw[<-e];rfl
def UR {p:List Pt} (h:p.length<=1000) (h2:lP p):qZ [T.sl false (List.map aC.enc p)]=some (Sh.enc [(false,.int .i64)] (iL p)):=(AQ9 ..).trans (AL7 _ h h2)
def iS (p:List Pt):Int:=if p.length<3 then 3 else if 32<p.length then 4 else if VG p=false then 9 else if wU p=false\/iL p=0 then 17 else 0
def AXX:Env:=Env.of [(357,.pure FN),(358,.pure oP),(359,.pure qZ)]
def AY3:FuncId->Hint:=bP 378 [(2,.inv [.val 8 false (.int .i64)])] (λ_=>bH)
def AHE:bB Tryz.prog AXX:=.cons AU2 (.cons AQJ (.cons AI6 (.nil _)))
def PP(a0:List aN)(R:T->Prop):Prop:=aJ d5 (oP (BT2 a0)) λ(y4:Bool)=>aE (!y4) (R (pPP 17)) (aJ d8 (qZ (BT2 a0)) λ(y5:Int)=>aE (decide (y5=0)) (R (pPP 17)) (BTV R))
def KZ(a0:List aN)(R:T->Prop):Prop:=aE (decide ((↑(i7 a0).length:Int)<3)) (R (pPP 3)) (aE (decide (32<(↑(i7 a0).length:Int))) (R (pPP 4)) (a7 (Int×PUnit) (λX0 s1=>aE (decide (s1.1<(↑(i7 a0).length:Int))) (aU aC (i7 a0) s1.1 λ(y2:aN)=>aJ d5 (FN [aH true aC y2]) λ(y3:Bool)=>aE y3 (aE (decide (0<=s1.1)) (v6 R) (PP a0 R)) (g9 X0 s1)) (PP a0 R)) (0,())))
abbrev NJ:Sh:=[(false,aC.li)]
def yV (p:List aN):Option T:=some (T.v (Value.int .i64 (iS p)))
def iK:List T->Option T:=gS NJ yV
def ADQ {a0}:iK [T.sl false (List.map aC.enc a0)]=yV (a0):=a8 (s:=NJ) rfl (a0) rfl
def ASJ:lW Tryz.prog 319 iK yV (bR NJ) KZ:=eN (a1:=(false,aC.li)) (Hs:=AY3) (k:=8) AHE aV aY (aQ rfl) ⟨_,_,Tryz.func319,rfl⟩ rfl λ_ _=>by kernel_rfl
def FI:aT Tryz.prog 319 iK:=ASJ λp r h hb=>by
 cases h;have is:∀ {n:Int},iS p=n->pPP n=pPP (iS p):=λh=>by rw[h]
 unfold KZ PP BT2 BTV i7 g9 v6 d8 d5;refine b8 (λh=>is (by rw[ae] at h;unfold iS;rw[if_pos (by omega)])) λh1=>?_;refine b8 (λh=>is (by rw[ae] at h h1;unfold iS;rw[if_neg (by omega),if_pos (by omega)])) λh2=>?_;rw[ae] at h1 h2;refine bJ p.length (λk s=>s=((k:Int),())/\∀ i,i<k->i<p.length->dQ (pt p i)) ⟨rfl,λi h=>by omega⟩ ?_;rintro X k s hk ⟨rfl,hJ⟩ hX;dsimp only;refine b8 (λhlt=>?_) λhge=>?_
 ·rw[ae] at hlt;have hlt:k<p.length:=by omega
  rw[gJ hlt];refine aM (s:=[(false,.bool)]) (y:=!decide (dQ (pt p k))) (ZP ..) ?_;refine kD (λhf=>?_) λhn=>hX _ hlt ⟨by rw[show i64.wrap ((k:Int)+1)=((k+1:Nat):Int) from aZ _ (by omega) (by omega)],λi h1 h2=>by
   rcases Nat.lt_or_ge i k with h3|h3
   ·exact hJ i h3 h2
   ·have:i=k:=by omega
    subst this;exact hn⟩
  refine b8 (λ_=>is ?_) λh=>by omega
  have:VG p=false:=by
   rw[Bool.eq_false_iff];intro h;have:=oS.1 h _ (ak hlt);rw[<-VX hlt] at this;exact hf this
  unfold iS;rw[if_neg (by omega),if_neg (by omega),if_pos this]
 ·have hN:lP p:=λq hq=>by
   obtain ⟨i,hi,rfl⟩:=List.mem_iff_getElem.1 hq;rw[<-VX hi];rw[ae] at hge;exact hJ i (by omega) hi
  have hnb:¬ VG p=false:=by rw[oS.2 hN];simp
  refine aM (s:=[(false,.bool)]) (ADS (by omega) hN) ?_;refine eQ (λh=>is (by unfold iS;rw[if_neg (by omega),if_neg (by omega),if_neg hnb,if_pos (.inl h)])) λhs=>?_;refine aM (s:=[(false,.int .i64)]) (UR (by omega) hN) ?_;refine b8 (λh=>is (by unfold iS;rw[if_neg (by omega),if_neg (by omega),if_neg hnb,if_pos (.inr h)])) λha=>is ?_;unfold iS;rw[if_neg (by omega),if_neg (by omega),if_neg hnb,if_neg];rintro (h|h)
  ·rw[show wU p=true from hs] at h;cases h
  ·exact ha h
def q0 (p:List Pt):iK [T.sl false (List.map aC.enc p)]=some (Sh.enc [(false,.int .i64)] (iS p)):=ADQ ..
def iT {p:List Pt} (h:iS p=0):3<=p.length/\p.length<=32/\lP p/\wU p=true/\iL p≠0:=by
 unfold iS at h;by_cases h1:p.length<3
 ·rw[if_pos h1] at h;cases h
 rw[if_neg h1] at h;by_cases h2:32<p.length
 ·rw[if_pos h2] at h;cases h
 rw[if_neg h2] at h;by_cases h3:VG p=false
 ·rw[if_pos h3] at h;cases h
 rw[if_neg h3] at h;by_cases h4:wU p=false\/iL p=0
 ·rw[if_pos h4] at h;cases h
 refine ⟨by omega,by omega,oS.1 (by simpa using h3),by simpa using λe=>h4 (.inl e),λe=>h4 (.inr e)⟩
def lX (p:List Pt):Int:=if iS p=0 then iL p else 0
def A4N:Env:=Env.of [(319,.pure iK),(359,.pure qZ)]
def AOE:bB Tryz.prog A4N:=.cons FI (.cons AI6 (.nil _))
def R9(a0:List aN)(R:T->Prop):Prop:=aJ d8 (iK (BT2 a0)) λ(y0:Int)=>aE (!decide (y0=0)) (BTV R) (aJ d8 (qZ (BT2 a0)) λ(y1:Int)=>R (pPP y1))
abbrev WL:Sh:=[(false,aC.li)]
def DK (p:List aN):Option T:=some (T.v (Value.int .i64 (lX p)))
def nU:List T->Option T:=gS WL DK
def AJ9 {a0}:nU [T.sl false (List.map aC.enc a0)]=DK (a0):=a8 (s:=WL) rfl (a0) rfl
def A2Q:lW Tryz.prog 320 nU DK (bR WL) R9:=eN (a1:=(false,aC.li)) (Hs:=c0) (k:=8) AOE aV aY (aQ rfl) ⟨_,_,Tryz.func320,rfl⟩ rfl λ_ _=>by kernel_rfl
def ZC:aT Tryz.prog 320 nU:=A2Q λp r h hb=>by
 cases h;unfold R9 BT2 BTV i7 d8;refine aM (s:=[(false,.int .i64)]) (q0 p) ?_;refine kD (λh=>PT (by unfold lX;rw[if_neg h])) λh=>?_;obtain ⟨_,h2,h3,_⟩:=iT h;refine aM (s:=[(false,.int .i64)]) (UR (by omega) h3) ?_;exact PT (by unfold lX;rw[if_pos h])
def A6 (p:List Pt):nU [T.sl false (List.map aC.enc p)]=some (Sh.enc [(false,.int .i64)] (lX p)):=AJ9 ..
end Go.Pv
end
