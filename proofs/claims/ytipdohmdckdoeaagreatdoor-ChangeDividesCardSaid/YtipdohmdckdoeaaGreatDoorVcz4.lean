/-
  The examples of chapter 20, run by the kernel.
  What the laws about a design and an order share.
-/
import Derived.Test.YtipdohmdckdoeaaGreatDoorVcz3
import Derived.Test.YtipdohmdckdoeaaGreatDoorVcz1
import Derived.Test.YtipdohmdckdoeaaGreatDoorVckj
set_option linter.defProp false
set_option linter.unusedSimpArgs false
set_option linter.unusedVariables false
set_option maxRecDepth 100000
namespace Go.Pv
open Go Go.Proofs
noncomputable def A59:Env:=Env.of [(66,.pure (G2 VU)),(83,.pure tW),(318,.fresh (qY 1 8)),(103,.fresh (qY 3 40)),(104,.fresh (qY 6 72)),(105,.fresh (qY 3 40)),(136,.fresh (qY 2 16)),(137,.fresh (qY 1 24)),(106,.fresh (qY 18 208)),(107,.fresh (qY 5 88)),(243,.fresh (qY 1 16)),(280,.grow 3 lD),(5000000000+38,.mark)]
def AVQ:aU Tryz.prog A59:=aU.cons (x:=.pure (G2 VU)) APM (aU.cons (x:=.pure tW) yS (aU.cons (x:=.fresh (qY 1 8)) AEN (aU.cons (x:=.fresh (qY 3 40)) VZ (aU.cons (x:=.fresh (qY 6 72)) V2 (aU.cons (x:=.fresh (qY 3 40)) VY (aU.cons (x:=.fresh (qY 2 16)) APK (aU.cons (x:=.fresh (qY 1 24)) AEO (aU.cons (x:=.fresh (qY 18 208)) V1 (aU.cons (x:=.fresh (qY 5 88)) V0 (aU.cons (x:=.fresh (qY 1 16)) AEP (aU.cons (x:=.grow 3 lD) E5 (aU.cons (x:=.mark) trivial (aU.nil _)))))))))))))
noncomputable def gIn:List T->Option T:=TB Tryz.prog 400 APU A59 40 44
def BII:aP Tryz.prog 44 gIn:=mS aY a6 400 APU AVQ 40 (oS (k:=39) (fn:=_) (c:=_) (by kernel_rfl) Tryz.func44 rfl (by kernel_rfl))
def BJI:FuncId->Bool:=λf=>[260,86,128,45].contains f
noncomputable def APZ:Env:=Env.of [(83,.pure tW),(66,.pure (G2 VU)),(44,.pure gIn),(12,.pure BI6),(10,.pure BI5),(18,.pure BI4),(5000000000+38,.mark)]
def AMM:aU Tryz.prog APZ:=aU.cons (x:=.pure tW) yS (aU.cons (x:=.pure (G2 VU)) APM (aU.cons (x:=.pure gIn) BII (aU.cons (x:=.pure BI6) BDB (aU.cons (x:=.pure BI5) BDA (aU.cons (x:=.pure BI4) BC9 (aU.cons (x:=.mark) trivial (aU.nil _)))))))
def BN9:List T->Option T:=λargs=>match args with | []=>some (.v (.bool true))|_=>none
def cO:List T->Option T:=BN9
def E0:aP Tryz.prog 9 cO :=
 AUF aY a6 400 BJI (B:=APZ) AMM 40 (by kernel_rfl)
def awD {K:Bool->Prop} (h:K true):aJ [(false,Sy.bool)] (cO []) K:=aF (s:=[(false,.bool)]) (y:=true) rfl h
def BNM {A:Prop} (h:A):A2T A A:=⟨h,h⟩
def BM {o:cN} {n:Int} (h:p9 o n=true):(o.2.length:Int)<=n:=by
 unfold p9 at h;rw[ac,ac,ah,ah] at h;exact h.2.1
structure P8 (d:aB) (o:cN):Prop where
 D:NJ d=true
 K:LJ d=true
 E:∀ x∈o.2,gC (cQ x)=true/\fF (iN x)=true
def AP0 {d:aB} {o:cN} (h:xT d o=true):P8 d o:=by
 unfold xT at h;simp only[ac,List.all_eq_true] at h;exact ⟨h.1.1,h.1.2,h.2⟩
def ALE {d:aB} (h:few d 40=true):GC 40 d:=A3W h
variable {m:aI}
def MS {d:aB} {o:cN} {b:Nat} (c:P8 d o) (hf:GC b d) (hb:b<=900):fX [aG true aD d,aG true aK m,aG true b9 o]=some (Sh.enc [(true,aD),(false,.int .i64)] (fU d m o)):=ATI (BK6 hf hb c.D c.K c.E)
def ZT {d:aB} {o:cN} {b:Nat} (c:P8 d o) (hf:GC b d) (h:(fU d m o).2=0):GC (b+o.2.length) (fU d m o).1/\NJ (fU d m o).1=true/\LJ (fU d m o).1=true:=by
 obtain ⟨_,e⟩:=BI h;rw[e] at h ⊢;exact QJ hf c.D c.K c.E h
end Go.Pv
