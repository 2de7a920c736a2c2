/-
  ChangeDivides: what the law comes to.
-/
import Derived.Test.YtipdohmdckdoeaaGreatDoorVcz4
set_option linter.defProp false
set_option linter.unusedSimpArgs false
set_option linter.unusedVariables false
set_option maxRecDepth 100000
namespace Go.Pv
open Go Go.Proofs IntKind
noncomputable def AYG:Env:=Env.of [(40,.pure D3),(24,.pure oZ),(14,.pure fX),(15,.pure fL),(9,.pure cO)]
def A1N:FuncId->Hint:=λ_=>bA
def AIY:aU Tryz.prog AYG:=.cons ALJ (.cons RM (.cons AAC (.cons GV (.cons E0 (.nil _)))))
def BUI:Sh:=[(true,aD),(false,Sy.int IntKind.i64)]
def BUJ:Sh:=[(false,Sy.bool)]
def BUK:T:=pPR false
def BUM(a2:cN):List (List T):=List.map aM.enc a2.2
def BUN(a0:aB)(a1:aI)(a2:cN)(y5:aB×Int)(R:T->Prop):Prop:=aJ BUI (fX [aG true aD a0,aG true aK a1, aG true b9 a2]) λ(y6:aB×Int)=>aC (decide (y5.2=y6.2)) (aJ BUJ (fL [aG true aD y5.1,aG true aD y6.1]) λ(y7:Bool)=>aC y7 (aJ BUJ (cO []) λ(y8:Bool)=>R (pPR y8)) (R BUK)) (R BUK)
def BUL(a2:cN)(a0:aB)(a1:aI)(R:T->Prop):Prop:=bL (jQ 38 (BUM a2) && (decide (0<=i64.wrap ((↑(BUM a2).length:Int).tdiv 2)) && decide ((i64.wrap ((↑(BUM a2).length:Int).tdiv 2)).toNat <= (BUM a2).length)) && true) (aJ BUI (fX [aG true aD a0,aG true aK a1, T.agg [pPQ a2.1, T.sl false (List.drop 0 (List.take (i64.wrap ((↑(BUM a2).length:Int).tdiv 2)).toNat (BUM a2)))]]) λ(y4:aB×Int)=>aC (decide (y4.2=0)) (bL (jQ 38 (BUM a2) && decide ((BUM a2).length<=(BUM a2).length) && (decide (0<=i64.wrap ((↑(BUM a2).length:Int).tdiv 2)) && decide ((i64.wrap ((↑(BUM a2).length:Int).tdiv 2)).toNat <= (BUM a2).length))) (aJ BUI (fX [aG true aD y4.1,aG true aK a1, T.agg [pPQ a2.1, T.sl false (List.drop (i64.wrap ((↑(BUM a2).length:Int).tdiv 2)).toNat (List.take (BUM a2).length (BUM a2)))]]) λ(y5:aB×Int)=>BUN a0 a1 a2 y5 R)) (BUN a0 a1 a2 y4 R))
def PH(a0:aB)(a1:aI)(a2:cN)(R:T->Prop):Prop:=aJ BUJ (D3 [aG true aD a0,pPP 40]) λ(y0:Bool)=>aC y0 (aJ BUJ (oZ [aG true b9 a2,pPP 12]) λ(y1:Bool)=>aC (!y1) (aJ BUJ (cO []) λ(y2:Bool)=>R (pPR y2)) (aC (decide ((↑(BUM a2).length:Int)<2)) (aJ BUJ (cO []) λ(y3:Bool)=>R (pPR y3)) (bL true (A2T (BUL a2 a0 a1 R) (BUL a2 a0 a1 R))))) (aJ BUJ (cO []) λ(y20:Bool)=>R (pPR y20))
abbrev IW:Sh:=[(true,aD),(true,aK),(true,b9)]
noncomputable def vP (x:aB×aI×cN):Option T:=match xT x.1 x.2.2 with
 | true=>some (pPR true)
 | false=>none
noncomputable def AFB:List T->Option T:=gS IW vP
def AWC:Of3 Tryz.prog 4 AFB vP (cG IW) PH:=SW (a1:=(true,aD)) (a2:=(true,aK)) (a3:=(true,b9)) (sp:=vP) (F:=PH) (Hs:=A1N) (f:=4) (k:=8) AIY aY a6 (aO rfl) ⟨_,_,Tryz.func4,rfl⟩ rfl λ_ _ _ _=>by kernel_rfl
def AUC:aP Tryz.prog 4 AFB:=AWC λd m o r h hb=>by
 clear hb;obtain ⟨hc,rfl⟩:=jR h;clear h;have c:=AP0 hc;clear hc;unfold PH BUL BUN BUM BUK BUJ BUI;refine aF (s:=jJ) (y:=few d 40) (G6 ..) ?_;refine sX (λhf=>?_) λ_=>awD rfl;have hf:=ALE hf;refine aF (s:=jJ) (y:=p9 o 12) (wK ..) ?_;refine fJ (λ_=>awD rfl) λh2=>?_;have hl:=BM h2;clear h2;refine cA (λ_=>awD rfl) λh3=>?_;rw[ae] at h3;have hw:i64.wrap ((↑(List.map aM.enc o.2).length:Int).tdiv 2)=((o.2.length / 2:Nat):Int):=by
  rw[ae,show ((o.2.length:Nat):Int).tdiv 2=((o.2.length / 2:Nat):Int) from (Int.ofNat_tdiv o.2.length 2).symm];exact bG _ (by omega) (by omega)
 rw[hw];clear hw;have hn0:0<o.2.length / 2:=by omega
 have hn1:o.2.length / 2<o.2.length:=by omega
 generalize o.2.length / 2=n at hn0 hn1 ⊢;have hh:jQ 38 (List.map aM.enc o.2)=true:=by cases o.2<;>rfl
 have c1:P8 d (o.1,o.2.take n):=⟨c.D,c.K,λx hx=>c.E x (List.mem_of_mem_take hx)⟩
 have g1:fX [aG true aD d,aG true aK m,T.agg [pPQ o.1,T.sl false (List.drop 0 (List.take (Int.toNat ((n:Nat):Int)) (List.map aM.enc o.2)))]]=some (Sh.enc [(true,aD),(false,.int .i64)] (fU d m (o.1,o.2.take n))):=by
  rw[List.drop_zero,Int.toNat_natCast,<-List.map_take];exact MS c1 hf (by omega)
 have g2:∀ x:aB,P8 x (o.1,o.2.drop n)->GC 52 x->fX [aG true aD x,aG true aK m,T.agg [pPQ o.1,T.sl false (List.drop (Int.toNat ((n:Nat):Int)) (List.take (List.map aM.enc o.2).length (List.map aM.enc o.2)))]]=some (Sh.enc [(true,aD),(false,.int .i64)] (fU x m (o.1,o.2.drop n))):=λx cx hx=>by
  rw[List.take_length,Int.toNat_natCast,<-List.map_drop];exact MS cx hx (by omega)
 have g3:fX [aG true aD d,aG true aK m,aG true b9 o]=some (Sh.enc [(true,aD),(false,.int .i64)] (fU d m o)):=MS c hf (by omega);have hs:=AK2 (d:=d) (m:=m) (o:=o) hn0 hn1 (by omega);have fin:∀ {a:aB×Int},a=fU d m o->aJ [(true,aD),(false,Sy.int IntKind.i64)] (fX [aG true aD d,aG true aK m,aG true b9 o]) λ(y:aB×Int) =>
   aC (decide (a.2=y.2)) (aJ [(false,Sy.bool)] (fL [aG true aD a.1,aG true aD y.1]) λ(z:Bool)=>aC z (aJ [(false,Sy.bool)] (cO []) λ(w:Bool)=>pPR w=pPR true) (pPR false=pPR true)) (pPR false=pPR true):=λ{a} e=>by
  subst e;refine aF (s:=[(true,aD),(false,.int .i64)]) g3 ?_;refine cA (λ_=>?_) λh=>absurd rfl h;refine aF (s:=jJ) (y:=lX (fU d m o).1 (fU d m o).1) (yY ..) ?_;rw[dW.2 rfl];exact sX (λ_=>awD rfl) λh=>by cases h
 refine ⟨rfl,BNM ⟨?_,?_⟩⟩
 ·rw[hh,ae,Int.toNat_natCast];simp only[ac,ah,Bool.true_and,and_true];omega
 refine aF (s:=[(true,aD),(false,.int .i64)]) g1 ?_;refine cA (λh0=>?_) λh0=>?_
 ·obtain ⟨q1,q2,q3⟩:=ZT c1 hf h0;have hx:GC 52 (fU d m (o.1,o.2.take n)).1:=by
   have:(o.2.take n).length<=12:=by rw[List.length_take];omega
   obtain ⟨a1,a2,a3,a4,a5⟩:=q1;dsimp only at a1 a2 a3 a4 a5;exact ⟨by omega,by omega,by omega,by omega,by omega⟩
  refine ⟨?_,?_⟩
  ·rw[hh,ae,Int.toNat_natCast];simp only[ac,ah,Bool.true_and];omega
  refine aF (s:=[(true,aD),(false,.int .i64)]) (g2 _ ⟨q2,q3,λx hx=>c.E x (List.mem_of_mem_drop hx)⟩ hx) ?_;exact fin (by rw[hs,if_pos h0])
 ·exact fin (by rw[hs,if_neg h0])
def AXC:∀ x:aB×aI×cN,AKI IW x->vP x=some (.v (.bool true)):=λ⟨d,m,o⟩ h=>dN (c:=xT d o) (a:=pPR true) (IE h.1 h.2.2)
end Go.Pv
