/-
  Facts on the program that every function's file asks for.
  The seam, the part, the section with an identifier.
  The part with an identifier, as the program finds it; how thick a seam is.
  Words that several files share.
  The way from the block down to a part.
  Chapter 17: the indices of a design, walked.
  Chapter 17: rising, walked.
  strings.Split on typed data.
  Names and identifiers.
  Chapter 17: the tree's form, walked.
  The examples of chapter 17, run by the kernel.
  Chapter 17: the tree's other methods where a design's elements are empty, and Check there.
  Plane geometry, plain.
  poly: crosses and edges.
  poly: simple contours and their areas.
  poly.Where; region: edges, within, apart, Check, Area2.
  region: Check, Area2.
  vec.Valid; material: Check, Grade, Rolled.
-/
import Derived.Test.YtcdomkejkfcjlaaGreatDoorPrki
import Derived.Test.YtcdomkejkfcjlaaGreatDoorPrty
import Derived.Test.YtcdomkejkfcjlaaGreatDoorProg
import Derived.KernelRfl
import Derived.Test.YtcdomkejkfcjlaaGreatDoorPrkn
import Derived.Test.YtcdomkejkfcjlaaGreatDoorPrgs
import Derived.Test.YtcdomkejkfcjlaaGreatDoorPrsl
import Derived.Laws.RangeAny
import Derived.Test.YtcdomkejkfcjlaaGreatDoorPrkm
set_option linter.unusedSimpArgs false
set_option linter.unusedVariables false
namespace Go.Pv
open Go Go.Proofs
theorem aU:Tryz.prog.follows .mixedOrders=true:=by kernel_rfl
theorem aV:eR Tryz.prog=true:=by kernel_rfl
end Go.Pv
set_option maxRecDepth 100000
namespace Go.Pv
open Go Go.Proofs
def partOf (d:aF) (id:ByteArray):Option bL:=d.2.2.1.find? fun s=>decide (s.1=id)
def cJ (d:aF) (id:ByteArray):Option gU:=d.2.1.find? fun s=>decide (s.1=id)
def pY (m:aN) (n:ByteArray):Option bQ:=m.2.find? fun s=>decide (s.1=n)
def AM7:gU:=(⟨#[]⟩,0,⟨#[]⟩)
def AZF:bL:=(⟨#[]⟩,0,0,⟨#[]⟩,⟨#[]⟩,0,([],[]),⟨#[]⟩,0,0,(0,0,0),(0,0,0),0)
def nE:bQ:=(⟨#[]⟩,0,0,0)
def found {α:Type} (no:α) (o:Option α):α×Bool:=match o with
 | some s=>(s,true)
 | none=>(no,false)
def F2 (x:aF×ByteArray):Option T:=some (Sh.enc [(true,aX),(false,.bool)] (found AZF (partOf x.1 x.2)))
def AL (x:aF×ByteArray):Option T:=some (Sh.enc [(true,bH),(false,.bool)] (found AM7 (cJ x.1 x.2)))
def p8 (x:aN×ByteArray):Option T:=some (Sh.enc [(true,aZ),(false,.bool)] (found nE (pY x.1 x.2)))
abbrev mL:=F2
abbrev kS:=AL
noncomputable def M9:Env:=Env.of []
def AD9:FuncId→Hint:=fun f=>match f == 85 with|true=>⟨fun r=>match r == 2 with|true=>.inv [.val 6 false (.int .i64),.fix 1]|false=>.none,fun _ _=>none,fun _=>none⟩|false=>aT
theorem AJX:aE Tryz.prog M9:=aE.nil _
def OJ (a0:aF) (a1:ByteArray) (R:T→Prop):Prop :=
 fB
 (a8.rows false
 [[D.p (T.v (.string { data:=#[] })),D.p (T.v (.int .i64 0)),
 D.p (T.v (.int .i64 0)),D.p (T.v (.string { data:=#[] })),
 D.p (T.v (.string { data:=#[] })),D.p (T.v (.int .i64 0)),
 D.p (T.v (Value.slice none 0 0)),D.p (T.v (Value.slice none 0 0)),
 D.p (T.v (.string { data:=#[] })),D.p (T.v (.int .i64 0)),
 D.p (T.v (.int .i64 0)),D.p (T.v (.int .i64 0)),
 D.p (T.v (.int .i64 0)),D.p (T.v (.int .i64 0)),
 D.p (T.v (.int .i64 0)),D.p (T.v (.int .i64 0)),
 D.p (T.v (.int .i64 0)),D.p (T.v (.int .i64 0))]])
 (a8.rows false
 [[D.p (T.v (.string { data:=#[] })),D.p (T.v (.int .i64 0)),
 D.p (T.v (.int .i64 0)),D.p (T.v (.string { data:=#[] })),
 D.p (T.v (.string { data:=#[] })),D.p (T.v (.int .i64 0)),
 D.p (T.v (Value.slice none 0 0)),D.p (T.v (Value.slice none 0 0)),
 D.p (T.v (.string { data:=#[] })),D.p (T.v (.int .i64 0)),
 D.p (T.v (.int .i64 0)),D.p (T.v (.int .i64 0)),
 D.p (T.v (.int .i64 0)),D.p (T.v (.int .i64 0)),
 D.p (T.v (.int .i64 0)),D.p (T.v (.int .i64 0)),
 D.p (T.v (.int .i64 0)),D.p (T.v (.int .i64 0))]])
 (a7 (Int×PUnit×PUnit)
 (fun (X0:Int×PUnit×PUnit→Prop) (s1:Int×PUnit×PUnit) =>
 aB (decide (s1.1<(↑(List.map aX.enc a0.2.2.1).length:Int)))
 (aO aX (List.map aX.enc a0.2.2.1) s1.1 fun (y2:bL) =>
 aB (decide (y2.1=a1))
 (aO aX (List.map aX.enc a0.2.2.1) s1.1 fun (y3:bL) =>
 R (T.cQ [aC true aX y3,T.v (.bool true)]))
 (fB
 (a8.rows false
 [[D.p (T.v (.string { data:=#[] })),
 D.p (T.v (.int .i64 0)),
 D.p (T.v (.int .i64 0)),
 D.p (T.v (.string { data:=#[] })),
 D.p (T.v (.string { data:=#[] })),
 D.p (T.v (.int .i64 0)),
 D.p (T.v (Value.slice none 0 0)),D.p (T.v (Value.slice none 0 0)),
 D.p (T.v (.string { data:=#[] })),
 D.p (T.v (.int .i64 0)),
 D.p (T.v (.int .i64 0)),
 D.p (T.v (.int .i64 0)),
 D.p (T.v (.int .i64 0)),
 D.p (T.v (.int .i64 0)),
 D.p (T.v (.int .i64 0)),
 D.p (T.v (.int .i64 0)),
 D.p (T.v (.int .i64 0)),
 D.p (T.v (.int .i64 0))]])
 (a8.rows false
 [[D.p (T.v (.string { data:=#[] })),
 D.p (T.v (.int .i64 0)),
 D.p (T.v (.int .i64 0)),
 D.p (T.v (.string { data:=#[] })),
 D.p (T.v (.string { data:=#[] })),
 D.p (T.v (.int .i64 0)),
 D.p (T.v (Value.slice none 0 0)),D.p (T.v (Value.slice none 0 0)),
 D.p (T.v (.string { data:=#[] })),
 D.p (T.v (.int .i64 0)),
 D.p (T.v (.int .i64 0)),
 D.p (T.v (.int .i64 0)),
 D.p (T.v (.int .i64 0)),
 D.p (T.v (.int .i64 0)),
 D.p (T.v (.int .i64 0)),
 D.p (T.v (.int .i64 0)),
 D.p (T.v (.int .i64 0)),
 D.p (T.v (.int .i64 0))]])
 (X0 (IntKind.i64.wrap (s1.1+1),(),()))))
 (R
 (T.cQ
 [T.agg
 [T.v (.string { data:=#[] }),T.v (.int .i64 0),
 T.v (.int .i64 0),T.v (.string { data:=#[] }),
 T.v (.string { data:=#[] }),T.v (.int .i64 0),
 T.sl false [],T.sl false [],T.v (.string { data:=#[] }),
 T.v (.int .i64 0),T.v (.int .i64 0),
 T.v (.int .i64 0),T.v (.int .i64 0),
 T.v (.int .i64 0),T.v (.int .i64 0),
 T.v (.int .i64 0),T.v (.int .i64 0),
 T.v (.int .i64 0)],
 T.v (.bool false)])))
 (0,(),()))
theorem AC1 ( a0 a1 R):bA aW Tryz.prog M9 AD9 8 85 [aC true aM a0,aC false Sy.str a1] R=OJ a0 a1 R:=by kernel_rfl
abbrev FJ:Sh:=[(true,aM),(false,Sy.str)]
abbrev EU:Sh:=[(true,aX),(false,Sy.bool)]
theorem BC (y:Sh.den EU) (K:Sh.den EU→Prop):aG EU (some (Sh.enc EU y)) K=K y:=lV rfl y K
noncomputable def eN:List T→Option (T):=gS FJ mL
theorem xD {a0 a1}:eN [aC true aM a0,T.v (.string a1)]=mL (a0,a1):=a6 (s:=FJ) rfl (a0,a1) rfl
theorem AT8 (h:∀ a0 a1 r,mL (a0,a1)=some r→bY FJ (a0,a1)→OJ a0 a1 (fun y=>y=r)):aK Tryz.prog 85 eN :=
 aP (E:=M9) (Hs:=AD9) AJX aU aV (aL rfl) 8 ⟨_,_,Tryz.func85,rfl⟩ rfl fun x r h1 h2=>by
  obtain ⟨a0,a1⟩:=x
  rw[show Sh.bK FJ (a0,a1)=[aC true aM a0,aC false Sy.str a1] from rfl,AC1]
  exact h a0 a1 r h1 h2
theorem yS:aK Tryz.prog 85 eN:=AT8 fun d id r h hb=>by
 have hl:d.2.2.1.length≤2 ^ 47:=hb.1.2.2.1.1
 unfold OJ
 rw[cG]
 refine aY d.2.2.1.length (fun k s=>s=((k:Int),(),())∧(d.2.2.1.drop k).find? (fun s=>decide (s.1=id))=partOf d id) ⟨rfl,rfl⟩ ?_
 rintro X k s hk ⟨rfl,hf⟩ hX
 simp only[List.length_map,AAE,cG]
 by_cases hlt:k<d.2.2.1.length
 ·rw[lW hlt] at hf
  simp only[hlt,decide_true,aB,aS (r:=aX) hlt]
  cases hc:decide (d.2.2.1[k].1=id) with
  | true =>
   simp only[hc,if_true] at hf
   simp only[mL,F2,←hf] at h
   cases h;rfl
  | false =>
   simp only[hc] at hf
   refine hX _ hlt ⟨?_,hf⟩
   simp only[Prod.mk.injEq,and_true]
   exact aQ _ (by omega) (by omega)
 ·have:k=d.2.2.1.length:=by omega
  subst this
  simp only[List.drop_length,List.find?_nil] at hf
  simp only[mL,F2,←hf] at h
  simp only[hlt,decide_false,aB]
  cases h;rfl
noncomputable def M6:Env:=Env.of []
def AD6:FuncId→Hint:=fun f=>match f == 41 with|true=>⟨fun r=>match r == 2 with|true=>.inv [.val 6 false (.int .i64),.fix 1]|false=>.none,fun _ _=>none,fun _=>none⟩|false=>aT
theorem AJU:aE Tryz.prog M6:=aE.nil _
def OG (a0:aF) (a1:ByteArray) (R:T→Prop):Prop :=
 fB
 (a8.rows false
 [[D.p (T.v (.string { data:=#[] })),D.p (T.v (.int .i64 0)),
 D.p (T.v (.string { data:=#[] }))]])
 (a8.rows false
 [[D.p (T.v (.string { data:=#[] })),D.p (T.v (.int .i64 0)),
 D.p (T.v (.string { data:=#[] }))]])
 (a7 (Int×PUnit×PUnit)
 (fun (X0:Int×PUnit×PUnit→Prop) (s1:Int×PUnit×PUnit) =>
 aB (decide (s1.1<(↑(List.map bH.enc a0.2.1).length:Int)))
 (aO bH (List.map bH.enc a0.2.1) s1.1 fun (y2:gU) =>
 aB (decide (y2.1=a1))
 (aO bH (List.map bH.enc a0.2.1) s1.1 fun (y3:gU) =>
 R (T.cQ [aC true bH y3,T.v (.bool true)]))
 (fB
 (a8.rows false
 [[D.p (T.v (.string { data:=#[] })),
 D.p (T.v (.int .i64 0)),
 D.p (T.v (.string { data:=#[] }))]])
 (a8.rows false
 [[D.p (T.v (.string { data:=#[] })),
 D.p (T.v (.int .i64 0)),
 D.p (T.v (.string { data:=#[] }))]])
 (X0 (IntKind.i64.wrap (s1.1+1),(),()))))
 (R
 (T.cQ
 [T.agg
 [T.v (.string { data:=#[] }),T.v (.int .i64 0),
 T.v (.string { data:=#[] })],
 T.v (.bool false)])))
 (0,(),()))
theorem ACY ( a0 a1 R):bA aW Tryz.prog M6 AD6 8 41 [aC true aM a0,aC false Sy.str a1] R=OG a0 a1 R:=by kernel_rfl
abbrev FG:Sh:=[(true,aM),(false,Sy.str)]
abbrev ET:Sh:=[(true,bH),(false,Sy.bool)]
theorem sU (y:Sh.den ET) (K:Sh.den ET→Prop):aG ET (some (Sh.enc ET y)) K=K y:=lV rfl y K
noncomputable def cX:List T→Option (T):=gS FG kS
theorem rP {a0 a1}:cX [aC true aM a0,T.v (.string a1)]=kS (a0,a1):=a6 (s:=FG) rfl (a0,a1) rfl
theorem AT5 (h:∀ a0 a1 r,kS (a0,a1)=some r→bY FG (a0,a1)→OG a0 a1 (fun y=>y=r)):aK Tryz.prog 41 cX :=
 aP (E:=M6) (Hs:=AD6) AJU aU aV (aL rfl) 8 ⟨_,_,Tryz.func41,rfl⟩ rfl fun x r h1 h2=>by
  obtain ⟨a0,a1⟩:=x
  rw[show Sh.bK FG (a0,a1)=[aC true aM a0,aC false Sy.str a1] from rfl,ACY]
  exact h a0 a1 r h1 h2
theorem oK:aK Tryz.prog 41 cX:=AT5 fun d id r h hb=>by
 have hl:d.2.1.length≤2 ^ 47:=hb.1.2.1.1
 unfold OG
 rw[cG]
 refine aY d.2.1.length (fun k s=>s=((k:Int),(),())∧(d.2.1.drop k).find? (fun s=>decide (s.1=id))=cJ d id) ⟨rfl,rfl⟩ ?_
 rintro X k s hk ⟨rfl,hf⟩ hX
 simp only[List.length_map,AAE,cG]
 by_cases hlt:k<d.2.1.length
 ·rw[lW hlt] at hf
  simp only[hlt,decide_true,aB,aS (r:=bH) hlt]
  cases hc:decide (d.2.1[k].1=id) with
  | true =>
   simp only[hc,if_true] at hf
   simp only[kS,AL,←hf] at h
   cases h;rfl
  | false =>
   simp only[hc] at hf
   refine hX _ hlt ⟨?_,hf⟩
   simp only[Prod.mk.injEq,and_true]
   exact aQ _ (by omega) (by omega)
 ·have:k=d.2.1.length:=by omega
  subst this
  simp only[List.drop_length,List.find?_nil] at hf
  simp only[kS,AL,←hf] at h
  simp only[hlt,decide_false,aB]
  cases h;rfl
noncomputable def GU:Env:=Env.of []
def UD:FuncId→Hint:=fun f=>match f == 137 with|true=>⟨fun r=>match r == 2 with|true=>.inv [.val 8 false (.int .i64)]|false=>.none,fun _ _=>none,fun _=>none⟩|false=>aT
theorem AB7:aE Tryz.prog GU:=aE.nil _
def HM (a0:aN) (a1:ByteArray) (R:T→Prop):Prop :=
 a7 (Int×PUnit)
 (fun (X0:Int×PUnit→Prop) (s1:Int×PUnit) =>
 aB (decide (s1.1<(↑(List.map aZ.enc a0.2).length:Int)))
 (aO aZ (List.map aZ.enc a0.2) s1.1 fun (y2:bQ) =>
 aB (decide (y2.1=a1))
 (aB (decide (s1.1<0))
 (R
 (T.cQ
 [T.agg
 [T.v (.string { data:=#[] }),T.v (.int .i64 0),
 T.v (.int .i64 0),T.v (.int .i64 0)],
 T.v (.bool false)]))
 (aO aZ (List.map aZ.enc a0.2) s1.1 fun (y3:bQ) =>
 R (T.cQ [aC true aZ y3,T.v (.bool true)])))
 (X0 (IntKind.i64.wrap (s1.1+1),())))
 (R
 (T.cQ
 [T.agg
 [T.v (.string { data:=#[] }),T.v (.int .i64 0),
 T.v (.int .i64 0),T.v (.int .i64 0)],
 T.v (.bool false)])))
 (0,())
theorem YI ( a0 a1 R):bA aW Tryz.prog GU UD 8 108 [aC true aH a0,aC false Sy.str a1] R=HM a0 a1 R:=by kernel_rfl
abbrev AA:Sh:=[(true,aH),(false,Sy.str)]
noncomputable def b9:List T→Option (T):=gS AA p8
theorem Z1 {a0 a1}:b9 [aC true aH a0,T.v (.string a1)]=p8 (a0,a1):=a6 (s:=AA) rfl (a0,a1) rfl
theorem ANV (h:∀ a0 a1 r,p8 (a0,a1)=some r→bY AA (a0,a1)→HM a0 a1 (fun y=>y=r)):aK Tryz.prog 108 b9 :=
 aP (E:=GU) (Hs:=UD) AB7 aU aV (aL rfl) 8 ⟨_,_,Tryz.func108,rfl⟩ rfl fun x r h1 h2=>by
  obtain ⟨a0,a1⟩:=x
  rw[show Sh.bK AA (a0,a1)=[aC true aH a0,aC false Sy.str a1] from rfl,YI]
  exact h a0 a1 r h1 h2
theorem QI:aK Tryz.prog 108 b9:=ANV fun m n r h hb=>by
 have hl:m.2.length≤2 ^ 47:=hb.1.2.1
 unfold HM
 refine aY m.2.length (fun k s=>s=((k:Int),())∧(m.2.drop k).find? (fun s=>decide (s.1=n))=pY m n) ⟨rfl,rfl⟩ ?_
 rintro X k s hk ⟨rfl,hf⟩ hX
 simp only[List.length_map,AAE]
 by_cases hlt:k<m.2.length
 ·rw[lW hlt] at hf
  have h0:¬ ((k:Int)<0):=by omega
  simp only[hlt,decide_true,aB,aS (r:=aZ) hlt,h0,decide_false]
  cases hc:decide (m.2[k].1=n) with
  | true =>
   simp only[hc,if_true] at hf
   simp only[p8,←hf] at h
   cases h;rfl
  | false =>
   simp only[hc] at hf
   refine hX _ hlt ⟨?_,hf⟩
   simp only[Prod.mk.injEq,and_true]
   exact aQ _ (by omega) (by omega)
 ·have:k=m.2.length:=by omega
  subst this
  simp only[List.drop_length,List.find?_nil] at hf
  simp only[p8,←hf] at h
  simp only[hlt,decide_false,aB]
  cases h;rfl
end Go.Pv
namespace Go.Pv
open Go Go.Proofs
def RE (b:Nat) (n:Nat):Bool:=decide (n*b≤140737488355328)&&decide (n≤140737488355328)
def AP6 (s:eL):Bool:=RE 16 s.1.length&&RE 24 s.2.length&&s.2.all fun h=>RE 16 h.length
def AZY (p:bL):Bool:=AP6 p.2.2.2.2.2.2.1
def okD (d:aF):Bool:=d.2.2.1.all AZY
end Go.Pv
namespace Go.Pv
open Go Go.Proofs
abbrev AP8 (p:bL):ByteArray:=p.2.2.2.1
def VL (d:aF) (t:T):Option T:=match okD d with
 | true=>some t
 | false=>none
abbrev r_b:Sh:=[(false,.bool)]
theorem AZ0 {d:aF} {t r:T} (h:VL d t=some r):okD d=true∧r=t:=by
 unfold VL at h;split at h
 ·cases h;exact ⟨by assumption,rfl⟩
 ·cases h
theorem cU {p:Prop} {i:Decidable p} (h:p) {A B:Prop} (ha:A):aB (@decide p i) A B:=by rw[show @decide p i=true from decide_eq_true h];exact ha
theorem dH {p:Prop} {i:Decidable p} (h:¬ p) {A B:Prop} (hb:B):aB (@decide p i) A B:=by rw[show @decide p i=false from decide_eq_false h];exact hb
theorem IP {p:Prop} {i:Decidable p} (h:p) {A B:Prop} (hb:B):aB (!(@decide p i)) A B:=by rw[show @decide p i=true from decide_eq_true h];exact hb
theorem Q1 {p:Prop} {i:Decidable p} (h:¬ p) {A B:Prop} (ha:A):aB (!(@decide p i)) A B:=by rw[show @decide p i=false from decide_eq_false h];exact ha
theorem bJ {p:Prop} {i:Decidable p} {A B:Prop} (h1:p→A) (h2:¬ p→B):aB (@decide p i) A B:=by
 by_cases h:p
 ·rw[decide_eq_true h];exact h1 h
 ·rw[decide_eq_false h];exact h2 h
theorem gT {p:Prop} {i:Decidable p} {A B:Prop} (h1:¬ p→A) (h2:p→B):aB (!(@decide p i)) A B:=by
 by_cases h:p
 ·rw[decide_eq_true h];exact h2 h
 ·rw[decide_eq_false h];exact h1 h
theorem tA {c:Bool} {A B:Prop} (h1:c=true→A) (h2:c=false→B):aB c A B:=by cases c with
 | true=>exact h1 rfl
 | false=>exact h2 rfl
theorem dK {c:Bool} {A B:Prop} (h1:c=false→A) (h2:c=true→B):aB (!c) A B:=by cases c with
 | true=>exact h2 rfl
 | false=>exact h1 rfl
def bC {α:Type} (f:α→Int):List α→Int
 | []=>0
 | a::l=>if f a=0 then bC f l else f a
theorem fG {r:Sy} {l:List r.den} (f:r.den→Int) (hl:l.length≤140737488355328) {Body:(Int×PUnit→Prop)→Int×PUnit→r.den→Prop} {Exit:Prop}
  (hbody:∀ (X:Int×PUnit→Prop) (s:Int×PUnit) (y:r.den),y∈l→(f y=0→X (IntKind.i64.wrap (s.1+1),()))→(f y≠0→bC f l=f y)→Body X s y) (hexit:bC f l=0→Exit) :
  a7 (Int×PUnit) (fun (X:Int×PUnit→Prop) (s:Int×PUnit)=>aB (decide (s.1<((List.map r.enc l).length:Int))) (aO r (List.map r.enc l) s.1 fun y=>Body X s y) Exit) (0,()):=by
 refine aY l.length (fun k s=>s=((k:Int),())∧bC f l=bC f (l.drop k)) ⟨rfl,by rw[List.drop_zero]⟩ ?_
 rintro X k s hk ⟨rfl,he⟩ hX
 dsimp only
 refine bJ (fun hlt=>?_) fun hge=>?_
 ·rw[List.length_map] at hlt
  have hlt:k<l.length:=by omega
  rw[aS hlt]
  have hd:l.drop k=l[k]::l.drop (k+1):=List.drop_eq_getElem_cons hlt
  rw[hd,bC] at he
  refine hbody X _ _ (List.getElem_mem hlt) (fun h0=>?_) fun h0=>by rw[he,if_neg h0]
  rw[if_pos h0] at he
  exact hX _ hlt ⟨by rw[show IntKind.i64.wrap ((k:Int)+1)=((k+1:Nat):Int) from aQ _ (by omega) (by omega)],he⟩
 ·rw[List.length_map] at hge
  have:k=l.length:=by omega
  subst this
  rw[List.drop_length] at he
  exact hexit he
end Go.Pv
namespace Go.Pv
open Go Go.Proofs
def upF (d:aF):Nat→ByteArray→List ByteArray→List ByteArray×Bool
 | 0,_,_=>([],false)
 | n+1,id,l=>match cJ d id with
  | none=>([],false)
  | some x=>if x.2.1=1 then (l++[id],true) else upF d n x.2.2 (l++[id])
def up (d:aF) (id:ByteArray):List ByteArray×Bool:=upF d 65 id []
def BB (d:aF) (id:ByteArray):List ByteArray:=match cJ d id with
 | some _=>(up d id).1.reverse
 | none=>match partOf d id with
  | some p=>(up d (AP8 p)).1.reverse
  | none=>[]
abbrev A3I:Sh:=[(false,.li .str)]
abbrev A8R:Sh:=[(false,.li .str),(false,.bool)]
def AIP (x:aF×ByteArray):Option T:=some (Sh.enc A8R (up x.1 x.2))
def A0K (x:aF×ByteArray):Option T:=VL x.1 (Sh.enc A3I (BB x.1 x.2))
abbrev CZ:=A0K
theorem AQK {d:aF}:∀ {n:Nat} {id:ByteArray} {l:List ByteArray},(upF d n id l).1.length≤l.length+n
 | 0,_,_=>by simp[upF]
 | n+1,id,l=>by
  unfold upF
  cases cJ d id with
  | none=>simp
  | some x =>
   by_cases hx:x.2.1=1
   ·simp only[hx,if_true]
    simp
   ·simp only[hx,if_false]
    have:=AQK (d:=d) (n:=n) (id:=x.2.2) (l:=l++[id])
    simp at this;omega
theorem ABF (d:aF) (id:ByteArray):(up d id).1.length≤65:=by have:=AQK (d:=d) (n:=65) (id:=id) (l:=[]);simpa [up] using this
theorem B3 {l:List ByteArray} (h:l.length≤8000000000000) (K:Prop):bV (decide (((List.map Sy.str.enc l).length+1)*16≤140737488355328)&&decide ((List.map Sy.str.enc l).length+1≤140737488355328)) K=K:=by
 have e:(decide (((List.map Sy.str.enc l).length+1)*16≤140737488355328)&&decide ((List.map Sy.str.enc l).length+1≤140737488355328))=true:=by
  simp only[List.length_map,Bool.and_eq_true,decide_eq_true_eq]
  omega
 rw[e];simp[bV]
theorem DO {l:List ByteArray} {x:ByteArray} (K:List ByteArray→Prop):bX Sy.str (List.map Sy.str.enc l++[[T.v (.string x)]]) K=K (l++[x]):=tI (r:=.str) rfl l _ x rfl K
theorem AFJ {l:List ByteArray} {x:ByteArray}:List.map Sy.str.enc l++[[T.v (.string x)]]=List.map Sy.str.enc (l++[x]):=by simp[Sy.enc]
noncomputable def A4P:Env:=Env.of [(41,.pure cX)]
def A7J:FuncId→Hint:=fun f=>match f == 80 with|true=>⟨fun r=>match r == 3 with|true=>.inv [.val 1 false .str,.own 6 1 .str,.val 7 false (.int .i64)]|false=>.none,fun _ _=>none,fun _=>none⟩|false=>aT
theorem A4Q:aE Tryz.prog A4P:=aE.cons (x:=.pure cX) oK (aE.nil _)
def A4R (a0:aF) (a1:ByteArray) (R:T→Prop):Prop :=
 a7 (ByteArray×List ByteArray×Int×PUnit)
 (fun (X0:ByteArray×List ByteArray×Int×PUnit→Prop) (s1:ByteArray×List ByteArray×Int×PUnit) =>
 aB (decide (s1.2.2.1≤64))
 (aG [(true,bH),(false,Sy.bool)]
 (cX [aC true aM a0,T.v (.string s1.1)])
 fun (y2:gU×Bool) =>
 aB (!y2.2) (R (T.cQ [T.sl false [],T.v (.bool false)]))
 (bV
 (decide (((List.map Sy.str.enc s1.2.1).length+1)*16≤140737488355328) &&
 decide ((List.map Sy.str.enc s1.2.1).length+1≤140737488355328))
 (aB (decide (y2.1.2.1=1))
 (R
 (T.cQ
 [T.sl false (List.map Sy.str.enc s1.2.1++[[T.v (.string s1.1)]]),
 T.v (.bool true)]))
 (bX Sy.str (List.map Sy.str.enc s1.2.1++[[T.v (.string s1.1)]])
 fun (y3:List ByteArray)=>X0 (y2.1.2.2,y3,IntKind.i64.wrap (s1.2.2.1+1),())))))
 (R (T.cQ [T.sl false [],T.v (.bool false)])))
 (a1,[],0,())
theorem A1D ( a0 a1 R):bA aW Tryz.prog A4P A7J 8 80 [aC true aM a0,aC false Sy.str a1] R=A4R a0 a1 R:=by kernel_rfl
abbrev A3P:Sh:=[(true,aM),(false,Sy.str)]
abbrev A3J:Sh:=[(false,Sy.str.li),(false,Sy.bool)]
theorem VU (y:Sh.den A3J) (K:Sh.den A3J→Prop):aG A3J (some (Sh.enc A3J y)) K=K y:=lV rfl y K
noncomputable def D7:List T→Option (T):=gS A3P AIP
theorem Z4 {a0 a1}:D7 [aC true aM a0,T.v (.string a1)]=AIP (a0,a1):=a6 (s:=A3P) rfl (a0,a1) rfl
theorem A8P (h:∀ a0 a1 r,AIP (a0,a1)=some r→bY A3P (a0,a1)→A4R a0 a1 (fun y=>y=r)):aK Tryz.prog 80 D7 :=
 aP (E:=A4P) (Hs:=A7J) A4Q aU aV (aL rfl) 8 ⟨_,_,Tryz.func80,rfl⟩ rfl fun x r h1 h2=>by
  obtain ⟨a0,a1⟩:=x
  rw[show Sh.bK A3P (a0,a1)=[aC true aM a0,aC false Sy.str a1] from rfl,A1D]
  exact h a0 a1 r h1 h2
theorem AX2:aK Tryz.prog 80 D7:=A8P fun d id r h hb=>by
 cases h
 unfold A4R
 refine aY 65 (fun k s=>∃ id' l',s=(id',l',(k:Int),())∧l'.length=k∧upF d (65-k) id' l'=up d id) ⟨id,[],rfl,rfl,rfl⟩ ?_
 rintro X k s hk ⟨id',l',rfl,hl,hu⟩ hX
 dsimp only
 by_cases hlt:k<65
 ·have h1:decide ((k:Int)≤64)=true:=by simp;omega
  obtain ⟨m,hm⟩:∃ m,65-k=m+1:=⟨64-k,by omega⟩
  rw[hm] at hu
  simp only[upF] at hu
  simp only[h1,B3 (l:=l') (by omega),DO,aB,rP,kS,AL,sU]
  cases hn:cJ d id' with
  | none=>simp only[hn] at hu;simp only[found];rw[←hu];rfl
  | some x =>
   simp only[hn] at hu
   simp only[found,Bool.not_true]
   by_cases hx:x.2.1=1
   ·simp only[hx,decide_true]
    rw[if_pos hx] at hu
    rw[←hu,AFJ];rfl
   ·simp only[hx,decide_false]
    rw[if_neg hx] at hu
    rw[DO]
    refine hX _ hlt ⟨x.2.2,l'++[id'],?_,by simp[hl],by rw[←hu];congr 1;omega⟩
    simp only[Prod.mk.injEq,and_true,true_and]
    exact aQ _ (by omega) (by omega)
 ·have h1:decide ((k:Int)≤64)=false:=by simp;omega
  have:65-k=0:=by omega
  rw[this] at hu
  rw[h1,←hu]
  rfl
noncomputable def GL:Env:=Env.of [(41,.pure cX),(85,.pure eN),(80,.pure D7)]
def T5:FuncId→Hint:=fun f=>match f == 81 with|true=>⟨fun r=>match r == 11 with|true=>.inv [.own 12 1 .str,.val 13 false (.int .i64)]|false=>.none,fun _ _=>none,fun _=>none⟩|false=>aT
theorem ABZ:aE Tryz.prog GL:=aE.cons (x:=.pure cX) oK (aE.cons (x:=.pure eN) yS (aE.cons (x:=.pure D7) AX2 (aE.nil _)))
def HE (a0:aF) (a1:ByteArray) (R:T→Prop):Prop :=
 aG [(true,bH),(false,Sy.bool)]
 (cX [aC true aM a0,T.v (.string a1)]) fun (y0:gU×Bool) =>
 aB (!y0.2)
 (aG [(true,aX),(false,Sy.bool)]
 (eN [aC true aM a0,T.v (.string a1)])
 fun (y1:bL×Bool) =>
 aB (!y1.2) (R (T.sl false []))
 (aG [(false,Sy.str.li),(false,Sy.bool)]
 (D7 [aC true aM a0,T.v (.string y1.1.2.2.2.1)])
 fun (y2:List ByteArray×Bool) =>
 a7 (List ByteArray×Int×PUnit)
 (fun (X3:List ByteArray×Int×PUnit→Prop) (s4:List ByteArray×Int×PUnit) =>
 aB (decide (0≤s4.2.1))
 (aO Sy.str (List.map Sy.str.enc y2.1) s4.2.1 fun (y5:ByteArray) =>
 bV
 (decide (((List.map Sy.str.enc s4.1).length+1)*16≤140737488355328) &&
 decide ((List.map Sy.str.enc s4.1).length+1≤140737488355328))
 (bX Sy.str (List.map Sy.str.enc s4.1++[[T.v (.string y5)]])
 fun (y6:List ByteArray)=>X3 (y6,IntKind.i64.wrap (s4.2.1-1),())))
 (R (T.sl false (List.map Sy.str.enc s4.1))))
 ([],IntKind.i64.wrap ((↑(List.map Sy.str.enc y2.1).length:Int)-1),())))
 (aG [(false,Sy.str.li),(false,Sy.bool)]
 (D7 [aC true aM a0,T.v (.string a1)])
 fun (y7:List ByteArray×Bool) =>
 a7 (List ByteArray×Int×PUnit)
 (fun (X8:List ByteArray×Int×PUnit→Prop) (s9:List ByteArray×Int×PUnit) =>
 aB (decide (0≤s9.2.1))
 (aO Sy.str (List.map Sy.str.enc y7.1) s9.2.1 fun (y10:ByteArray) =>
 bV
 (decide (((List.map Sy.str.enc s9.1).length+1)*16≤140737488355328) &&
 decide ((List.map Sy.str.enc s9.1).length+1≤140737488355328))
 (bX Sy.str (List.map Sy.str.enc s9.1++[[T.v (.string y10)]])
 fun (y11:List ByteArray)=>X8 (y11,IntKind.i64.wrap (s9.2.1-1),())))
 (R (T.sl false (List.map Sy.str.enc s9.1))))
 ([],IntKind.i64.wrap ((↑(List.map Sy.str.enc y7.1).length:Int)-1),()))
theorem XW ( a0 a1 R):bA aW Tryz.prog GL T5 8 81 [aC true aM a0,aC false Sy.str a1] R=HE a0 a1 R:=by kernel_rfl
abbrev zV:Sh:=[(true,aM),(false,Sy.str)]
noncomputable def oS:List T→Option (T):=gS zV CZ
theorem ZR {a0 a1}:oS [aC true aM a0,T.v (.string a1)]=CZ (a0,a1):=a6 (s:=zV) rfl (a0,a1) rfl
theorem ANN (h:∀ a0 a1 r,CZ (a0,a1)=some r→bY zV (a0,a1)→HE a0 a1 (fun y=>y=r)):aK Tryz.prog 81 oS :=
 aP (E:=GL) (Hs:=T5) ABZ aU aV (aL rfl) 8 ⟨_,_,Tryz.func81,rfl⟩ rfl fun x r h1 h2=>by
  obtain ⟨a0,a1⟩:=x
  rw[show Sh.bK zV (a0,a1)=[aC true aM a0,aC false Sy.str a1] from rfl,XW]
  exact h a0 a1 r h1 h2
theorem UN {ls:List ByteArray} (hl:ls.length≤65) {R:T→Prop} (hR:R (T.sl false (List.map Sy.str.enc ls.reverse))):a7 (List ByteArray×Int×PUnit)
    (fun (X8:List ByteArray×Int×PUnit→Prop) (s9:List ByteArray×Int×PUnit) =>
     aB (decide (0≤s9.2.1))
      (aO Sy.str (List.map Sy.str.enc ls) s9.2.1 fun (y10:ByteArray) =>
       bV
        (decide (((List.map Sy.str.enc s9.1).length+1)*16≤140737488355328)&&decide ((List.map Sy.str.enc s9.1).length+1≤140737488355328))
        (bX Sy.str (List.map Sy.str.enc s9.1++[[T.v (.string y10)]])
         fun (y11:List ByteArray)=>X8 (y11,IntKind.i64.wrap (s9.2.1-1),())))
      (R (T.sl false (List.map Sy.str.enc s9.1))))
    ([],IntKind.i64.wrap ((↑(List.map Sy.str.enc ls).length:Int)-1),()):=by
 refine aY ls.length (fun k s=>s=(ls.reverse.take k,(ls.length:Int)-1-k,())) ?_ ?_
 ·simp only[List.take_zero,List.length_map,Prod.mk.injEq,and_true,true_and]
  rw[aQ _ (by omega) (by omega)];simp
 rintro X k s hk rfl hX
 by_cases hlt:k<ls.length
 ·have h1:decide (0≤(ls.length:Int)-1-k)=true:=by simp;omega
  have e:(ls.length:Int)-1-k=((ls.length-1-k:Nat):Int):=by omega
  dsimp only
  rw[h1,e,aS (r:=.str) (show ls.length-1-k<ls.length by omega),B3 (by simp;omega),DO]
  simp only[aB]
  refine hX _ hlt ?_
  have hg:ls.reverse.take (k+1)=ls.reverse.take k++[ls[ls.length-1-k]]:=by
   rw[List.take_succ_eq_append_getElem (by simpa using hlt)]
   simp
  rw[hg]
  simp only[Prod.mk.injEq,and_true,true_and]
  rw[aQ _ (by omega) (by omega)];omega
 ·have:k=ls.length:=by omega
  subst this
  have h1:decide (0≤(ls.length:Int)-1-ls.length)=false:=by simp;omega
  simp only[h1,aB]
  rw[List.take_of_length_le (by simp)]
  exact hR
theorem AL2:aK Tryz.prog 81 oS:=ANN fun d id r h hb=>by
 have h':VL d (Sh.enc A3I (BB d id))=some r:=h
 obtain ⟨hok,rfl⟩:=AZ0 h'
 clear h h'
 unfold HE
 simp only[rP,kS,AL,sU,xD,mL,F2,BC,Z4,AIP,VU]
 cases hn:cJ d id with
 | some x =>
  simp only[found,Bool.not_true,eO,fS]
  exact UN (ABF d id) (R:=fun y=>y=Sh.enc A3I (BB d id)) (by simp[BB,hn,Sh.enc,aC,Sy.enc,hdT])
 | none =>
  simp only[found,Bool.not_false,eO,fS]
  cases hp:partOf d id with
  | none=>simp only[Bool.not_false,eO];simp[BB,hn,hp,Sh.enc,aC,Sy.enc,hdT]
  | some p =>
   simp only[Bool.not_true,eO,fS]
   exact UN (ABF d (AP8 p)) (R:=fun y=>y=Sh.enc A3I (BB d id)) (by simp[BB,hn,hp,Sh.enc,aC,Sy.enc,hdT])
end Go.Pv
namespace Go.Pv
open Go Go.Proofs
def mG (l:List ByteArray) (x:ByteArray):Bool:=l.any fun y=>decide (y=x)
theorem j1 {l:List ByteArray} {x:ByteArray}:mG l x=true↔x∈l:=by
 simp only[mG,List.any_eq_true,decide_eq_true_eq]
 exact ⟨fun ⟨y,h,e⟩=>e ▸ h,fun h=>⟨x,h,rfl⟩⟩
def Sy.tl:Sy→Sy
 | .pr _ b=>b
 | x=>x
def IQ:List ByteArray→Nat→List (ByteArray×Int)→List (ByteArray×Int)
 | [],_,es=>es
 | a::l,i,es=>IQ l (i+1) (match iR es a with
  | none=>wL es a (i:Int)
  | some _=>es)
def gW (l:List ByteArray):List (ByteArray×Int):=IQ l 0 []
def ids {α:Type} (l:List (ByteArray×α)):List ByteArray:=l.map fun x=>x.1
def lS {α β:Type} (l:List α) (r:β):Option β:=match decide (l.length≤140737488355328) with
 | true=>some r
 | false=>none
theorem fY {α β:Type} {l:List α} {t r:β} (h:lS l t=some r):l.length≤140737488355328∧r=t:=by
 unfold lS at h;split at h
 ·rename_i hc
  cases h;exact ⟨of_decide_eq_true hc,rfl⟩
 ·cases h
theorem dX {α β:Type} {l:List α} (t:β) (h:l.length≤140737488355328):lS l t=some t:=by unfold lS;rw[decide_eq_true h]
theorem A1T (es:List (ByteArray×Int)):List.map (fun (e:Value×D)=>(e.1,ABE e.2)) (List.map (cC Sy.str false (Sy.int IntKind.i64)) es)=bE es:=by
 rw[List.map_map];rfl
theorem LU {r:Sy} {l:List (ByteArray×r.den)} (hl:l.length≤140737488355328) :
 dN Sy.str false (Sy.int IntKind.i64) [] fun (y0:List (ByteArray×Int)) =>
 a7 (List (ByteArray×Int)×Int×PUnit)
  (fun (X1:List (ByteArray×Int)×Int×PUnit→Prop) (s2:List (ByteArray×Int)×Int×PUnit) =>
   aB (decide (s2.2.1<(↑l.length:Int)))
    (aO (.pr .str r) (List.map (Sy.pr .str r).enc l) s2.2.1 fun (y3:ByteArray×r.den) =>
     gG TypeDesc.string (Value.string y3.1)
      (List.map (cC Sy.str false (Sy.int IntKind.i64)) s2.1) false
      (Sy.int IntKind.i64)
      (aO (.pr .str r) (List.map (Sy.pr .str r).enc l) s2.2.1 fun (y7:ByteArray×r.den) =>
       nY (Option (Nat×D))
        (findD TypeDesc.string (Value.string y7.1)
         (List.map (cC Sy.str false (Sy.int IntKind.i64)) s2.1) 0)
        fun (y8:Option (Nat×D)) =>
        dN Sy.str false (Sy.int IntKind.i64)
         (eT (List.map (cC Sy.str false (Sy.int IntKind.i64)) s2.1) y8
          (Value.string y7.1) (D.p (T.v (.int .i64 s2.2.1))))
         fun (y9:List (ByteArray×Int))=>X1 (y9,IntKind.i64.wrap (s2.2.1+1),()))
      fun (i4:Nat) (y5:Int) =>
      dN Sy.str false (Sy.int IntKind.i64)
       (List.map (cC Sy.str false (Sy.int IntKind.i64)) s2.1)
       fun (y6:List (ByteArray×Int))=>X1 (y6,IntKind.i64.wrap (s2.2.1+1),()))
    (bV
     ((List.map (cC Sy.str false (Sy.int IntKind.i64)) s2.1).all
      fun (e:Value×D)=>ATD e.2)
     ((fun y=>y=T.mp (bE (gW (ids l))))
      (T.mp
       (List.map (fun (e:Value×D)=>(e.1,ABE e.2))
        (List.map (cC Sy.str false (Sy.int IntKind.i64)) s2.1))))))
  (y0,0,()):=by
 refine mY (r:=.int .i64) rfl [] _ ?_
 refine aY l.length (fun k s=>∃ es,s=(es,(k:Int),())∧IQ (ids (l.drop k)) k es=gW (ids l)) ⟨[],rfl,rfl⟩ ?_
 rintro X k s hk ⟨es,rfl,hes⟩ hX
 dsimp only
 have hw:IntKind.i64.wrap ((k:Int)+1)=((k+1:Nat):Int):=aQ _ (by omega) (by omega)
 by_cases hlt:k<l.length
 ·refine cU (by omega) ?_
  rw[aS (r:=.pr .str r) hlt]
  have hd:ids (l.drop k)=l[k].1::ids (l.drop (k+1)):=by rw[List.drop_eq_getElem_cons hlt];rfl
  rw[hd] at hes
  simp only[IQ] at hes
  refine DW (r:=.int .i64) (fun hno=>?_) (fun i v hv=>?_)
  ·rw[hno] at hes
   rw[aS (r:=.pr .str r) hlt]
   exact AYM (r:=.int .i64) rfl (v:=(k:Int)) (hX _ hlt ⟨_,by rw[hw],hes⟩)
  ·rw[hv] at hes
   exact mY (r:=.int .i64) rfl es _ (hX _ hlt ⟨_,by rw[hw],hes⟩)
 ·have:k=l.length:=by omega
  subst this
  refine dH (by omega) ?_
  rw[List.drop_length] at hes
  refine ⟨?_,?_⟩
  ·rw[List.all_eq_true]
   intro e he
   obtain ⟨x,_,rfl⟩:=List.mem_map.1 he
   rfl
  ·show T.mp _=_
   rw[A1T]
   rw[←hes]
   rfl
def tB (a0:aF):List T:=[T.v (.int .i64 (a0.2.1.length:Int)),T.fn 57 [] [T.ref [T.ref (aM.enc a0)]]]
noncomputable def AVG:Env:=Env.of []
def A3V:FuncId→Hint:=fun f=>match f == 56 with|true=>⟨fun r=>match r == 3 with|true=>.inv [.map 0 .str false (.int .i64),.val 12 false (.int .i64)]|false=>.none,fun _ _=>none,fun _=>none⟩|false=>aT
theorem A02:aE Tryz.prog AVG:=aE.nil _
def AV1 (a0:aF) (R:T→Prop):Prop :=
 dN Sy.str false (Sy.int IntKind.i64) [] fun (y0:List (ByteArray×Int)) =>
 a7 (List (ByteArray×Int)×Int×PUnit)
 (fun (X1:List (ByteArray×Int)×Int×PUnit→Prop) (s2:List (ByteArray×Int)×Int×PUnit) =>
 aB (decide (s2.2.1<(↑a0.2.1.length:Int)))
 (aO bH (List.map bH.enc a0.2.1) s2.2.1 fun (y3:gU) =>
 gG TypeDesc.string (Value.string y3.1)
 (List.map (cC Sy.str false (Sy.int IntKind.i64)) s2.1) false
 (Sy.int IntKind.i64)
 (aO bH (List.map bH.enc a0.2.1) s2.2.1 fun (y7:gU) =>
 nY (Option (Nat×D))
 (findD TypeDesc.string (Value.string y7.1)
 (List.map (cC Sy.str false (Sy.int IntKind.i64)) s2.1) 0)
 fun (y8:Option (Nat×D)) =>
 dN Sy.str false (Sy.int IntKind.i64)
 (eT (List.map (cC Sy.str false (Sy.int IntKind.i64)) s2.1) y8
 (Value.string y7.1) (D.p (T.v (.int .i64 s2.2.1))))
 fun (y9:List (ByteArray×Int))=>X1 (y9,IntKind.i64.wrap (s2.2.1+1),()))
 fun (i4:Nat) (y5:Int) =>
 dN Sy.str false (Sy.int IntKind.i64)
 (List.map (cC Sy.str false (Sy.int IntKind.i64)) s2.1)
 fun (y6:List (ByteArray×Int))=>X1 (y6,IntKind.i64.wrap (s2.2.1+1),()))
 (bV
 ((List.map (cC Sy.str false (Sy.int IntKind.i64)) s2.1).all
 fun (e:Value×D)=>ATD e.2)
 (R
 (T.mp
 (List.map (fun (e:Value×D)=>(e.1,ABE e.2))
 (List.map (cC Sy.str false (Sy.int IntKind.i64)) s2.1))))))
 (y0,0,())
theorem AV2 ( a0 R):sX aW Tryz.prog AVG A3V 8 56 (tB a0) R=AV1 a0 R:=by kernel_rfl
def AOB (d:aF):Option (List (ByteArray×Int)):=lS d.2.1 (gW (ids d.2.1))
theorem AQN (d d':aF) (h:tB d=tB d'):d=d':=by
 unfold tB at h
 simp only[List.cons.injEq,T.fn.injEq,T.ref.injEq,and_true,true_and] at h
 exact Sy.dO aM _ _ h.2
noncomputable def AGB:List T→Option (List (ByteArray×Int)):=gA (fun (x:aF)=>tB x) AOB
theorem AX4 (a0:aF):AGB (tB a0)=AOB a0:=lA (A:=(fun (x:aF)=>tB x)) AQN a0
theorem A6H (h:∀ (a0:aF) (r:List (ByteArray×Int)),AOB a0=some r→(∀ t∈tB a0,Bd t)→AV1 a0 (fun y=>y = .mp (bE r))):iM Tryz.prog 56 (sC AGB) :=
 DX (E:=AVG) (Hs:=A3V) A02 aU aV (aL rfl) 8 ⟨_,_,Tryz.func56,rfl⟩ fun x r h1 h2=>by
  rw[AV2]
  exact h x r h1 h2
theorem A5D:iM Tryz.prog 56 (sC AGB):=A6H fun d r h hb=>by
 obtain ⟨hl,rfl⟩:=fY h
 unfold AV1
 exact LU (r:=bH.tl) (l:=d.2.1) hl
def tC (a0:aF):List T:=[T.v (.int .i64 (a0.2.2.1.length:Int)),T.fn 58 [] [T.ref [T.ref (aM.enc a0)]]]
noncomputable def AVH:Env:=Env.of []
def A3W:FuncId→Hint:=fun f=>match f == 56 with|true=>⟨fun r=>match r == 3 with|true=>.inv [.map 0 .str false (.int .i64),.val 12 false (.int .i64)]|false=>.none,fun _ _=>none,fun _=>none⟩|false=>aT
theorem A03:aE Tryz.prog AVH:=aE.nil _
def AV3 (a0:aF) (R:T→Prop):Prop :=
 dN Sy.str false (Sy.int IntKind.i64) [] fun (y0:List (ByteArray×Int)) =>
 a7 (List (ByteArray×Int)×Int×PUnit)
 (fun (X1:List (ByteArray×Int)×Int×PUnit→Prop) (s2:List (ByteArray×Int)×Int×PUnit) =>
 aB (decide (s2.2.1<(↑a0.2.2.1.length:Int)))
 (aO aX (List.map aX.enc a0.2.2.1) s2.2.1 fun (y3:bL) =>
 gG TypeDesc.string (Value.string y3.1)
 (List.map (cC Sy.str false (Sy.int IntKind.i64)) s2.1) false
 (Sy.int IntKind.i64)
 (aO aX (List.map aX.enc a0.2.2.1) s2.2.1 fun (y7:bL) =>
 nY (Option (Nat×D))
 (findD TypeDesc.string (Value.string y7.1)
 (List.map (cC Sy.str false (Sy.int IntKind.i64)) s2.1) 0)
 fun (y8:Option (Nat×D)) =>
 dN Sy.str false (Sy.int IntKind.i64)
 (eT (List.map (cC Sy.str false (Sy.int IntKind.i64)) s2.1) y8
 (Value.string y7.1) (D.p (T.v (.int .i64 s2.2.1))))
 fun (y9:List (ByteArray×Int))=>X1 (y9,IntKind.i64.wrap (s2.2.1+1),()))
 fun (i4:Nat) (y5:Int) =>
 dN Sy.str false (Sy.int IntKind.i64)
 (List.map (cC Sy.str false (Sy.int IntKind.i64)) s2.1)
 fun (y6:List (ByteArray×Int))=>X1 (y6,IntKind.i64.wrap (s2.2.1+1),()))
 (bV
 ((List.map (cC Sy.str false (Sy.int IntKind.i64)) s2.1).all
 fun (e:Value×D)=>ATD e.2)
 (R
 (T.mp
 (List.map (fun (e:Value×D)=>(e.1,ABE e.2))
 (List.map (cC Sy.str false (Sy.int IntKind.i64)) s2.1))))))
 (y0,0,())
theorem AV4 ( a0 R):sX aW Tryz.prog AVH A3W 8 56 (tC a0) R=AV3 a0 R:=by kernel_rfl
def AOC (d:aF):Option (List (ByteArray×Int)):=lS d.2.2.1 (gW (ids d.2.2.1))
theorem AQO (d d':aF) (h:tC d=tC d'):d=d':=by
 unfold tC at h
 simp only[List.cons.injEq,T.fn.injEq,T.ref.injEq,and_true,true_and] at h
 exact Sy.dO aM _ _ h.2
noncomputable def AGC:List T→Option (List (ByteArray×Int)):=gA (fun (x:aF)=>tC x) AOC
theorem AX5 (a0:aF):AGC (tC a0)=AOC a0:=lA (A:=(fun (x:aF)=>tC x)) AQO a0
theorem A6I (h:∀ (a0:aF) (r:List (ByteArray×Int)),AOC a0=some r→(∀ t∈tC a0,Bd t)→AV3 a0 (fun y=>y = .mp (bE r))):iM Tryz.prog 56 (sC AGC) :=
 DX (E:=AVH) (Hs:=A3W) A03 aU aV (aL rfl) 8 ⟨_,_,Tryz.func56,rfl⟩ fun x r h1 h2=>by
  rw[AV4]
  exact h x r h1 h2
theorem A5E:iM Tryz.prog 56 (sC AGC):=A6I fun d r h hb=>by
 obtain ⟨hl,rfl⟩:=fY h
 unfold AV3
 exact LU (r:=aX.tl) (l:=d.2.2.1) hl
def tD (a0:aF):List T:=[T.v (.int .i64 (a0.2.2.2.1.length:Int)),T.fn 59 [] [T.ref [T.ref (aM.enc a0)]]]
noncomputable def AVI:Env:=Env.of []
def A3X:FuncId→Hint:=fun f=>match f == 56 with|true=>⟨fun r=>match r == 3 with|true=>.inv [.map 0 .str false (.int .i64),.val 12 false (.int .i64)]|false=>.none,fun _ _=>none,fun _=>none⟩|false=>aT
theorem A04:aE Tryz.prog AVI:=aE.nil _
def AV5 (a0:aF) (R:T→Prop):Prop :=
 dN Sy.str false (Sy.int IntKind.i64) [] fun (y0:List (ByteArray×Int)) =>
 a7 (List (ByteArray×Int)×Int×PUnit)
 (fun (X1:List (ByteArray×Int)×Int×PUnit→Prop) (s2:List (ByteArray×Int)×Int×PUnit) =>
 aB (decide (s2.2.1<(↑a0.2.2.2.1.length:Int)))
 (aO bW (List.map bW.enc a0.2.2.2.1) s2.2.1 fun (y3:o5) =>
 gG TypeDesc.string (Value.string y3.1)
 (List.map (cC Sy.str false (Sy.int IntKind.i64)) s2.1) false
 (Sy.int IntKind.i64)
 (aO bW (List.map bW.enc a0.2.2.2.1) s2.2.1 fun (y7:o5) =>
 nY (Option (Nat×D))
 (findD TypeDesc.string (Value.string y7.1)
 (List.map (cC Sy.str false (Sy.int IntKind.i64)) s2.1) 0)
 fun (y8:Option (Nat×D)) =>
 dN Sy.str false (Sy.int IntKind.i64)
 (eT (List.map (cC Sy.str false (Sy.int IntKind.i64)) s2.1) y8
 (Value.string y7.1) (D.p (T.v (.int .i64 s2.2.1))))
 fun (y9:List (ByteArray×Int))=>X1 (y9,IntKind.i64.wrap (s2.2.1+1),()))
 fun (i4:Nat) (y5:Int) =>
 dN Sy.str false (Sy.int IntKind.i64)
 (List.map (cC Sy.str false (Sy.int IntKind.i64)) s2.1)
 fun (y6:List (ByteArray×Int))=>X1 (y6,IntKind.i64.wrap (s2.2.1+1),()))
 (bV
 ((List.map (cC Sy.str false (Sy.int IntKind.i64)) s2.1).all
 fun (e:Value×D)=>ATD e.2)
 (R
 (T.mp
 (List.map (fun (e:Value×D)=>(e.1,ABE e.2))
 (List.map (cC Sy.str false (Sy.int IntKind.i64)) s2.1))))))
 (y0,0,())
theorem AV6 ( a0 R):sX aW Tryz.prog AVI A3X 8 56 (tD a0) R=AV5 a0 R:=by kernel_rfl
def AOD (d:aF):Option (List (ByteArray×Int)):=lS d.2.2.2.1 (gW (ids d.2.2.2.1))
theorem AQP (d d':aF) (h:tD d=tD d'):d=d':=by
 unfold tD at h
 simp only[List.cons.injEq,T.fn.injEq,T.ref.injEq,and_true,true_and] at h
 exact Sy.dO aM _ _ h.2
noncomputable def AGD:List T→Option (List (ByteArray×Int)):=gA (fun (x:aF)=>tD x) AOD
theorem AX6 (a0:aF):AGD (tD a0)=AOD a0:=lA (A:=(fun (x:aF)=>tD x)) AQP a0
theorem A6J (h:∀ (a0:aF) (r:List (ByteArray×Int)),AOD a0=some r→(∀ t∈tD a0,Bd t)→AV5 a0 (fun y=>y = .mp (bE r))):iM Tryz.prog 56 (sC AGD) :=
 DX (E:=AVI) (Hs:=A3X) A04 aU aV (aL rfl) 8 ⟨_,_,Tryz.func56,rfl⟩ fun x r h1 h2=>by
  rw[AV6]
  exact h x r h1 h2
theorem A5F:iM Tryz.prog 56 (sC AGD):=A6J fun d r h hb=>by
 obtain ⟨hl,rfl⟩:=fY h
 unfold AV5
 exact LU (r:=bW.tl) (l:=d.2.2.2.1) hl
def tE (a0:aF):List T:=[T.v (.int .i64 (a0.2.2.2.2.1.length:Int)),T.fn 60 [] [T.ref [T.ref (aM.enc a0)]]]
noncomputable def AVJ:Env:=Env.of []
def A3Y:FuncId→Hint:=fun f=>match f == 56 with|true=>⟨fun r=>match r == 3 with|true=>.inv [.map 0 .str false (.int .i64),.val 12 false (.int .i64)]|false=>.none,fun _ _=>none,fun _=>none⟩|false=>aT
theorem A05:aE Tryz.prog AVJ:=aE.nil _
def AV7 (a0:aF) (R:T→Prop):Prop :=
 dN Sy.str false (Sy.int IntKind.i64) [] fun (y0:List (ByteArray×Int)) =>
 a7 (List (ByteArray×Int)×Int×PUnit)
 (fun (X1:List (ByteArray×Int)×Int×PUnit→Prop) (s2:List (ByteArray×Int)×Int×PUnit) =>
 aB (decide (s2.2.1<(↑a0.2.2.2.2.1.length:Int)))
 (aO aR (List.map aR.enc a0.2.2.2.2.1) s2.2.1
 fun (y3:cB) =>
 gG TypeDesc.string (Value.string y3.1)
 (List.map (cC Sy.str false (Sy.int IntKind.i64)) s2.1) false
 (Sy.int IntKind.i64)
 (aO aR (List.map aR.enc a0.2.2.2.2.1) s2.2.1
 fun (y7:cB) =>
 nY (Option (Nat×D))
 (findD TypeDesc.string (Value.string y7.1)
 (List.map (cC Sy.str false (Sy.int IntKind.i64)) s2.1) 0)
 fun (y8:Option (Nat×D)) =>
 dN Sy.str false (Sy.int IntKind.i64)
 (eT (List.map (cC Sy.str false (Sy.int IntKind.i64)) s2.1) y8
 (Value.string y7.1) (D.p (T.v (.int .i64 s2.2.1))))
 fun (y9:List (ByteArray×Int))=>X1 (y9,IntKind.i64.wrap (s2.2.1+1),()))
 fun (i4:Nat) (y5:Int) =>
 dN Sy.str false (Sy.int IntKind.i64)
 (List.map (cC Sy.str false (Sy.int IntKind.i64)) s2.1)
 fun (y6:List (ByteArray×Int))=>X1 (y6,IntKind.i64.wrap (s2.2.1+1),()))
 (bV
 ((List.map (cC Sy.str false (Sy.int IntKind.i64)) s2.1).all
 fun (e:Value×D)=>ATD e.2)
 (R
 (T.mp
 (List.map (fun (e:Value×D)=>(e.1,ABE e.2))
 (List.map (cC Sy.str false (Sy.int IntKind.i64)) s2.1))))))
 (y0,0,())
theorem AV8 ( a0 R):sX aW Tryz.prog AVJ A3Y 8 56 (tE a0) R=AV7 a0 R:=by kernel_rfl
def AOE (d:aF):Option (List (ByteArray×Int)):=lS d.2.2.2.2.1 (gW (ids d.2.2.2.2.1))
theorem AQQ (d d':aF) (h:tE d=tE d'):d=d':=by
 unfold tE at h
 simp only[List.cons.injEq,T.fn.injEq,T.ref.injEq,and_true,true_and] at h
 exact Sy.dO aM _ _ h.2
noncomputable def AGE:List T→Option (List (ByteArray×Int)):=gA (fun (x:aF)=>tE x) AOE
theorem AX7 (a0:aF):AGE (tE a0)=AOE a0:=lA (A:=(fun (x:aF)=>tE x)) AQQ a0
theorem A6K (h:∀ (a0:aF) (r:List (ByteArray×Int)),AOE a0=some r→(∀ t∈tE a0,Bd t)→AV7 a0 (fun y=>y = .mp (bE r))):iM Tryz.prog 56 (sC AGE) :=
 DX (E:=AVJ) (Hs:=A3Y) A05 aU aV (aL rfl) 8 ⟨_,_,Tryz.func56,rfl⟩ fun x r h1 h2=>by
  rw[AV8]
  exact h x r h1 h2
theorem A5G:iM Tryz.prog 56 (sC AGE):=A6K fun d r h hb=>by
 obtain ⟨hl,rfl⟩:=fY h
 unfold AV7
 exact LU (r:=aR.tl) (l:=d.2.2.2.2.1) hl
end Go.Pv
namespace Go.Pv
open Go Go.Proofs
def orG {α:Type} (g1 g2:List T→Option α) (a:List T):Option α:=match g1 a with
 | some r=>some r
 | none=>g2 a
theorem RL {α:Type} {g1 g2:List T→Option α} {a:List T} {r:α} (h:g1 a=some r):orG g1 g2 a=some r:=by unfold orG;rw[h]
theorem n9 {α:Type} {g1 g2:List T→Option α} {a:List T} (h:g1 a=none):orG g1 g2 a=g2 a:=by unfold orG;rw[h]
theorem VQ {α:Type} {g1 g2:List T→Option α} {a:List T} {r:α} (h:orG g1 g2 a=some r):g1 a=some r∨g2 a=some r:=by
 unfold orG at h
 split at h
 ·rename_i r' h1;cases h;exact .inl h1
 ·exact .inr h
theorem aK.or {P:Program} {f:FuncId} {g1 g2:List T→Option T} (h1:aK P f g1) (h2:aK P f g2):aK P f (orG g1 g2):=⟨h1.entry,fun w own args vs r hG ho ha hr=>by
 rcases VQ hr with h|h
 ·exact h1.calls w own args vs r hG ho ha h
 ·exact h2.calls w own args vs r hG ho ha h⟩
theorem iM.orM {P:Program} {f:FuncId} {g1 g2:List T→Option (List (ByteArray×Int))} (h1:iM P f (sC g1)) (h2:iM P f (sC g2)):iM P f (sC (orG g1 g2)):=⟨h1.entry,fun w own args vs r hG ho ha hr=>by
 simp only[sC,Option.map_eq_some_iff] at hr
 obtain ⟨es,h,rfl⟩:=hr
 rcases VQ h with h|h
 ·exact h1.calls w own args vs _ hG ho ha (by simp[sC,h])
 ·exact h2.calls w own args vs _ hG ho ha (by simp[sC,h])⟩
noncomputable def AS6:List T→Option (List (ByteArray×Int)):=orG AGB (orG AGC (orG AGD AGE))
theorem A70:iM Tryz.prog 56 (sC AS6):=.orM A5D (.orM A5E (.orM A5F A5G))
theorem gJ {α X:Type} {A:X→List T} {sp:X→Option α} {args:List T} (h:∀ x,args≠A x):gA A sp args=none:=by
 unfold gA;rw[dif_neg];rintro ⟨x,hx⟩;exact h x hx
def lU:List ByteArray→Bool
 | a::b::l=>!(eP b a||decide (b=a))&&lU (b::l)
 | _=>true
theorem AE5 {l:List ByteArray} {k:Nat} (h:k+1<l.length):lU (l.drop k)=(!(eP l[k+1] l[k]||decide (l[k+1]=l[k]))&&lU (l.drop (k+1))):=by
 rw[List.drop_eq_getElem_cons (show k<l.length by omega),List.drop_eq_getElem_cons h,lU]
theorem AO9 {l:List ByteArray} {k:Nat} (h:l.length≤k+1):lU (l.drop k)=true:=by
 rcases Nat.lt_or_ge k l.length with h1|h1
 ·rw[List.drop_eq_getElem_cons h1,List.drop_eq_nil_of_le h];rfl
 ·rw[List.drop_eq_nil_of_le h1];rfl
theorem EX {r:Sy} {p:r.den→ByteArray} {l:List r.den} (hl:l.length≤140737488355328) {R:T→Prop} (hR:R (T.v (.bool (lU (l.map p))))) :
 a7 (Int×PUnit)
 (fun (X0:Int×PUnit→Prop) (s1:Int×PUnit) =>
  aB (decide (s1.1<(↑l.length:Int)))
   (aO r (List.map r.enc l) s1.1 fun (y2:r.den) =>
    aO r (List.map r.enc l) (IntKind.i64.wrap (s1.1-1))
     fun (y3:r.den) =>
     aB (eP (p y2) (p y3)||decide (p y2=p y3)) (R (T.v (.bool false)))
      (X0 (IntKind.i64.wrap (s1.1+1),())))
   (R (T.v (.bool true))))
 (1,()):=by
 refine aY l.length (fun k s=>s=(((k+1:Nat):Int),())∧lU (l.map p)=lU ((l.map p).drop k)) ⟨rfl,by rw[List.drop_zero]⟩ ?_
 rintro X k s hk ⟨rfl,he⟩ hX
 dsimp only
 have hw:IntKind.i64.wrap (((k+1:Nat):Int)+1)=((k+1+1:Nat):Int):=aQ _ (by omega) (by omega)
 have hw1:IntKind.i64.wrap (((k+1:Nat):Int)-1)=((k:Nat):Int):=by rw[aQ _ (by omega) (by omega)];omega
 by_cases hlt:k+1<l.length
 ·refine cU (by omega) ?_
  rw[aS hlt,hw1,aS (show k<l.length by omega)]
  rw[AE5 (by rw[List.length_map];exact hlt)] at he
  rw[List.getElem_map,List.getElem_map] at he
  cases hc:(eP (p l[k+1]) (p l[k])||decide (p l[k+1]=p l[k])) with
  | true =>
   rw[eO]
   rw[hc,Bool.not_true,Bool.false_and] at he
   rwa[he] at hR
  | false =>
   rw[fS]
   rw[hc,Bool.not_false,Bool.true_and] at he
   exact hX _ (by omega) ⟨by rw[hw],he⟩
 ·refine dH (by omega) ?_
  rw[AO9 (by rw[List.length_map];omega)] at he
  rwa[he] at hR
def rI (a0:List ByteArray):List T:=[T.v (.int .i64 (a0.length:Int)),T.fn 110 [] [T.ref [T.sl false (List.map Sy.str.enc a0)]]]
noncomputable def AVP:Env:=Env.of []
def A34:FuncId→Hint:=fun f=>match f == 61 with|true=>⟨fun r=>match r == 2 with|true=>.inv [.val 5 false (.int .i64)]|false=>.none,fun _ _=>none,fun _=>none⟩|false=>aT
theorem A1B:aE Tryz.prog AVP:=aE.nil _
def AWJ (a0:List ByteArray) (R:T→Prop):Prop :=
 a7 (Int×PUnit)
 (fun (X0:Int×PUnit→Prop) (s1:Int×PUnit) =>
 aB (decide (s1.1<(↑a0.length:Int)))
 (aO Sy.str (List.map Sy.str.enc a0) s1.1 fun (y2:ByteArray) =>
 aO Sy.str (List.map Sy.str.enc a0) (IntKind.i64.wrap (s1.1-1))
 fun (y3:ByteArray) =>
 aB (eP y2 y3||decide (y2=y3)) (R (T.v (.bool false)))
 (X0 (IntKind.i64.wrap (s1.1+1),())))
 (R (T.v (.bool true))))
 (1,())
theorem AWK ( a0 R):bA aW Tryz.prog AVP A34 8 61 (rI a0) R=AWJ a0 R:=by kernel_rfl
def AOK (l:List ByteArray):Option T:=lS l (T.v (.bool (lU l)))
theorem AQV (d d':List ByteArray) (h:rI d=rI d'):d=d':=by
 unfold rI at h
 simp only[List.cons.injEq,T.fn.injEq,T.ref.injEq,and_true,true_and,T.sl.injEq] at h
 exact map_inj (Sy.dO .str) h.2
noncomputable def AHB:List T→Option (T):=gA (fun (x:List ByteArray)=>rI x) AOK
theorem AYD (a0:List ByteArray):AHB (rI a0)=AOK a0:=lA (A:=(fun (x:List ByteArray)=>rI x)) AQV a0
theorem A6Q (h:∀ (a0:List ByteArray) (r:T),AOK a0=some r→(∀ t∈rI a0,Bd t)→AWJ a0 (fun y=>y=r)):aK Tryz.prog 61 AHB :=
 fK (E:=AVP) (Hs:=A34) A1B aU aV (aL rfl) 8 ⟨_,_,Tryz.func61,rfl⟩ fun x r h1 h2=>by
  rw[AWK]
  exact h x r h1 h2
theorem A5M:aK Tryz.prog 61 AHB:=A6Q fun l r h hb=>by
 obtain ⟨hl,rfl⟩:=fY h
 unfold AWJ
 exact EX (r:=.str) (p:=fun y=>y) (R:=fun y=>y=T.v (.bool (lU l))) hl (by simp)
def rE (a0:aF):List T:=[T.v (.int .i64 (a0.2.1.length:Int)),T.fn 62 [] [T.ref [T.ref (aM.enc a0)]]]
noncomputable def AVL:Env:=Env.of []
def A30:FuncId→Hint:=fun f=>match f == 61 with|true=>⟨fun r=>match r == 2 with|true=>.inv [.val 5 false (.int .i64)]|false=>.none,fun _ _=>none,fun _=>none⟩|false=>aT
theorem A07:aE Tryz.prog AVL:=aE.nil _
def AWB (a0:aF) (R:T→Prop):Prop :=
 a7 (Int×PUnit)
 (fun (X0:Int×PUnit→Prop) (s1:Int×PUnit) =>
 aB (decide (s1.1<(↑a0.2.1.length:Int)))
 (aO bH (List.map bH.enc a0.2.1) s1.1 fun (y2:gU) =>
 aO bH (List.map bH.enc a0.2.1) (IntKind.i64.wrap (s1.1-1))
 fun (y3:gU) =>
 aB (eP y2.1 y3.1||decide (y2.1=y3.1)) (R (T.v (.bool false)))
 (X0 (IntKind.i64.wrap (s1.1+1),())))
 (R (T.v (.bool true))))
 (1,())
theorem AWC ( a0 R):bA aW Tryz.prog AVL A30 8 61 (rE a0) R=AWB a0 R:=by kernel_rfl
def AOG (d:aF):Option T:=lS d.2.1 (T.v (.bool (lU (ids d.2.1))))
theorem AQR (d d':aF) (h:rE d=rE d'):d=d':=by
 unfold rE at h
 simp only[List.cons.injEq,T.fn.injEq,T.ref.injEq,and_true,true_and] at h
 exact Sy.dO aM _ _ h.2
noncomputable def AG7:List T→Option (T):=gA (fun (x:aF)=>rE x) AOG
theorem AX9 (a0:aF):AG7 (rE a0)=AOG a0:=lA (A:=(fun (x:aF)=>rE x)) AQR a0
theorem A6M (h:∀ (a0:aF) (r:T),AOG a0=some r→(∀ t∈rE a0,Bd t)→AWB a0 (fun y=>y=r)):aK Tryz.prog 61 AG7 :=
 fK (E:=AVL) (Hs:=A30) A07 aU aV (aL rfl) 8 ⟨_,_,Tryz.func61,rfl⟩ fun x r h1 h2=>by
  rw[AWC]
  exact h x r h1 h2
theorem A5I:aK Tryz.prog 61 AG7:=A6M fun d r h hb=>by
 obtain ⟨hl,rfl⟩:=fY h
 unfold AWB
 exact EX (r:=bH) (p:=fun y=>y.1) (R:=fun y=>y=T.v (.bool (lU (ids d.2.1)))) hl rfl
def rF (a0:aF):List T:=[T.v (.int .i64 (a0.2.2.1.length:Int)),T.fn 63 [] [T.ref [T.ref (aM.enc a0)]]]
noncomputable def AVM:Env:=Env.of []
def A31:FuncId→Hint:=fun f=>match f == 61 with|true=>⟨fun r=>match r == 2 with|true=>.inv [.val 5 false (.int .i64)]|false=>.none,fun _ _=>none,fun _=>none⟩|false=>aT
theorem A08:aE Tryz.prog AVM:=aE.nil _
def AWD (a0:aF) (R:T→Prop):Prop :=
 a7 (Int×PUnit)
 (fun (X0:Int×PUnit→Prop) (s1:Int×PUnit) =>
 aB (decide (s1.1<(↑a0.2.2.1.length:Int)))
 (aO aX (List.map aX.enc a0.2.2.1) s1.1 fun (y2:bL) =>
 aO aX (List.map aX.enc a0.2.2.1) (IntKind.i64.wrap (s1.1-1))
 fun (y3:bL) =>
 aB (eP y2.1 y3.1||decide (y2.1=y3.1)) (R (T.v (.bool false)))
 (X0 (IntKind.i64.wrap (s1.1+1),())))
 (R (T.v (.bool true))))
 (1,())
theorem AWE ( a0 R):bA aW Tryz.prog AVM A31 8 61 (rF a0) R=AWD a0 R:=by kernel_rfl
def AOH (d:aF):Option T:=lS d.2.2.1 (T.v (.bool (lU (ids d.2.2.1))))
theorem AQS (d d':aF) (h:rF d=rF d'):d=d':=by
 unfold rF at h
 simp only[List.cons.injEq,T.fn.injEq,T.ref.injEq,and_true,true_and] at h
 exact Sy.dO aM _ _ h.2
noncomputable def AG8:List T→Option (T):=gA (fun (x:aF)=>rF x) AOH
theorem AYA (a0:aF):AG8 (rF a0)=AOH a0:=lA (A:=(fun (x:aF)=>rF x)) AQS a0
theorem A6N (h:∀ (a0:aF) (r:T),AOH a0=some r→(∀ t∈rF a0,Bd t)→AWD a0 (fun y=>y=r)):aK Tryz.prog 61 AG8 :=
 fK (E:=AVM) (Hs:=A31) A08 aU aV (aL rfl) 8 ⟨_,_,Tryz.func61,rfl⟩ fun x r h1 h2=>by
  rw[AWE]
  exact h x r h1 h2
theorem A5J:aK Tryz.prog 61 AG8:=A6N fun d r h hb=>by
 obtain ⟨hl,rfl⟩:=fY h
 unfold AWD
 exact EX (r:=aX) (p:=fun y=>y.1) (R:=fun y=>y=T.v (.bool (lU (ids d.2.2.1)))) hl rfl
def rG (a0:aF):List T:=[T.v (.int .i64 (a0.2.2.2.1.length:Int)),T.fn 64 [] [T.ref [T.ref (aM.enc a0)]]]
noncomputable def AVN:Env:=Env.of []
def A32:FuncId→Hint:=fun f=>match f == 61 with|true=>⟨fun r=>match r == 2 with|true=>.inv [.val 5 false (.int .i64)]|false=>.none,fun _ _=>none,fun _=>none⟩|false=>aT
theorem A09:aE Tryz.prog AVN:=aE.nil _
def AWF (a0:aF) (R:T→Prop):Prop :=
 a7 (Int×PUnit)
 (fun (X0:Int×PUnit→Prop) (s1:Int×PUnit) =>
 aB (decide (s1.1<(↑a0.2.2.2.1.length:Int)))
 (aO bW (List.map bW.enc a0.2.2.2.1) s1.1 fun (y2:o5) =>
 aO bW (List.map bW.enc a0.2.2.2.1) (IntKind.i64.wrap (s1.1-1))
 fun (y3:o5) =>
 aB (eP y2.1 y3.1||decide (y2.1=y3.1)) (R (T.v (.bool false)))
 (X0 (IntKind.i64.wrap (s1.1+1),())))
 (R (T.v (.bool true))))
 (1,())
theorem AWG ( a0 R):bA aW Tryz.prog AVN A32 8 61 (rG a0) R=AWF a0 R:=by kernel_rfl
def AOI (d:aF):Option T:=lS d.2.2.2.1 (T.v (.bool (lU (ids d.2.2.2.1))))
theorem AQT (d d':aF) (h:rG d=rG d'):d=d':=by
 unfold rG at h
 simp only[List.cons.injEq,T.fn.injEq,T.ref.injEq,and_true,true_and] at h
 exact Sy.dO aM _ _ h.2
noncomputable def AG9:List T→Option (T):=gA (fun (x:aF)=>rG x) AOI
theorem AYB (a0:aF):AG9 (rG a0)=AOI a0:=lA (A:=(fun (x:aF)=>rG x)) AQT a0
theorem A6O (h:∀ (a0:aF) (r:T),AOI a0=some r→(∀ t∈rG a0,Bd t)→AWF a0 (fun y=>y=r)):aK Tryz.prog 61 AG9 :=
 fK (E:=AVN) (Hs:=A32) A09 aU aV (aL rfl) 8 ⟨_,_,Tryz.func61,rfl⟩ fun x r h1 h2=>by
  rw[AWG]
  exact h x r h1 h2
theorem A5K:aK Tryz.prog 61 AG9:=A6O fun d r h hb=>by
 obtain ⟨hl,rfl⟩:=fY h
 unfold AWF
 exact EX (r:=bW) (p:=fun y=>y.1) (R:=fun y=>y=T.v (.bool (lU (ids d.2.2.2.1)))) hl rfl
def rH (a0:aF):List T:=[T.v (.int .i64 (a0.2.2.2.2.1.length:Int)),T.fn 65 [] [T.ref [T.ref (aM.enc a0)]]]
noncomputable def AVO:Env:=Env.of []
def A33:FuncId→Hint:=fun f=>match f == 61 with|true=>⟨fun r=>match r == 2 with|true=>.inv [.val 5 false (.int .i64)]|false=>.none,fun _ _=>none,fun _=>none⟩|false=>aT
theorem A1A:aE Tryz.prog AVO:=aE.nil _
def AWH (a0:aF) (R:T→Prop):Prop :=
 a7 (Int×PUnit)
 (fun (X0:Int×PUnit→Prop) (s1:Int×PUnit) =>
 aB (decide (s1.1<(↑a0.2.2.2.2.1.length:Int)))
 (aO aR (List.map aR.enc a0.2.2.2.2.1) s1.1
 fun (y2:cB) =>
 aO aR (List.map aR.enc a0.2.2.2.2.1)
 (IntKind.i64.wrap (s1.1-1)) fun (y3:cB) =>
 aB (eP y2.1 y3.1||decide (y2.1=y3.1)) (R (T.v (.bool false)))
 (X0 (IntKind.i64.wrap (s1.1+1),())))
 (R (T.v (.bool true))))
 (1,())
theorem AWI ( a0 R):bA aW Tryz.prog AVO A33 8 61 (rH a0) R=AWH a0 R:=by kernel_rfl
def AOJ (d:aF):Option T:=lS d.2.2.2.2.1 (T.v (.bool (lU (ids d.2.2.2.2.1))))
theorem AQU (d d':aF) (h:rH d=rH d'):d=d':=by
 unfold rH at h
 simp only[List.cons.injEq,T.fn.injEq,T.ref.injEq,and_true,true_and] at h
 exact Sy.dO aM _ _ h.2
noncomputable def AHA:List T→Option (T):=gA (fun (x:aF)=>rH x) AOJ
theorem AYC (a0:aF):AHA (rH a0)=AOJ a0:=lA (A:=(fun (x:aF)=>rH x)) AQU a0
theorem A6P (h:∀ (a0:aF) (r:T),AOJ a0=some r→(∀ t∈rH a0,Bd t)→AWH a0 (fun y=>y=r)):aK Tryz.prog 61 AHA :=
 fK (E:=AVO) (Hs:=A33) A1A aU aV (aL rfl) 8 ⟨_,_,Tryz.func61,rfl⟩ fun x r h1 h2=>by
  rw[AWI]
  exact h x r h1 h2
theorem A5L:aK Tryz.prog 61 AHA:=A6P fun d r h hb=>by
 obtain ⟨hl,rfl⟩:=fY h
 unfold AWH
 exact EX (r:=aR) (p:=fun y=>y.1) (R:=fun y=>y=T.v (.bool (lU (ids d.2.2.2.2.1)))) hl rfl
noncomputable def tV:List T→Option T:=orG AG7 (orG AG8 (orG AG9 (orG AHA AHB)))
theorem A4B:aK Tryz.prog 61 tV:=.or A5I (.or A5J (.or A5K (.or A5L A5M)))
theorem A5P {d:aF} (h:d.2.1.length≤140737488355328):AS6 (tB d)=some (gW (ids d.2.1)):=by
 have h1:AGB (tB d)=some (gW (ids d.2.1)):=by rw[AX4];exact dX _ h
 exact (RL h1)
theorem A5T {d:aF} (h:d.2.1.length≤140737488355328):tV (rE d)=some (T.v (.bool (lU (ids d.2.1)))):=by
 have h1:AG7 (rE d)=some (T.v (.bool (lU (ids d.2.1)))):=by rw[AX9];exact dX _ h
 exact (RL h1)
theorem A5Q {d:aF} (h:d.2.2.1.length≤140737488355328):AS6 (tC d)=some (gW (ids d.2.2.1)):=by
 have h1:AGC (tC d)=some (gW (ids d.2.2.1)):=by rw[AX5];exact dX _ h
 exact ((n9 (gJ fun x h=>by simp[tB,tC] at h)).trans (RL h1))
theorem A5U {d:aF} (h:d.2.2.1.length≤140737488355328):tV (rF d)=some (T.v (.bool (lU (ids d.2.2.1)))):=by
 have h1:AG8 (rF d)=some (T.v (.bool (lU (ids d.2.2.1)))):=by rw[AYA];exact dX _ h
 exact ((n9 (gJ fun x h=>by simp[rE,rF] at h)).trans (RL h1))
theorem A5R {d:aF} (h:d.2.2.2.1.length≤140737488355328):AS6 (tD d)=some (gW (ids d.2.2.2.1)):=by
 have h1:AGD (tD d)=some (gW (ids d.2.2.2.1)):=by rw[AX6];exact dX _ h
 exact ((n9 (gJ fun x h=>by simp[tB,tD] at h)).trans ((n9 (gJ fun x h=>by simp[tC,tD] at h)).trans (RL h1)))
theorem A5V {d:aF} (h:d.2.2.2.1.length≤140737488355328):tV (rG d)=some (T.v (.bool (lU (ids d.2.2.2.1)))):=by
 have h1:AG9 (rG d)=some (T.v (.bool (lU (ids d.2.2.2.1)))):=by rw[AYB];exact dX _ h
 exact ((n9 (gJ fun x h=>by simp[rE,rG] at h)).trans ((n9 (gJ fun x h=>by simp[rF,rG] at h)).trans (RL h1)))
theorem A5S {d:aF} (h:d.2.2.2.2.1.length≤140737488355328):AS6 (tE d)=some (gW (ids d.2.2.2.2.1)):=by
 have h1:AGE (tE d)=some (gW (ids d.2.2.2.2.1)):=by rw[AX7];exact dX _ h
 exact ((n9 (gJ fun x h=>by simp[tB,tE] at h)).trans ((n9 (gJ fun x h=>by simp[tC,tE] at h)).trans ((n9 (gJ fun x h=>by simp[tD,tE] at h)).trans h1)))
theorem A5W {d:aF} (h:d.2.2.2.2.1.length≤140737488355328):tV (rH d)=some (T.v (.bool (lU (ids d.2.2.2.2.1)))):=by
 have h1:AHA (rH d)=some (T.v (.bool (lU (ids d.2.2.2.2.1)))):=by rw[AYC];exact dX _ h
 exact ((n9 (gJ fun x h=>by simp[rE,rH] at h)).trans ((n9 (gJ fun x h=>by simp[rF,rH] at h)).trans ((n9 (gJ fun x h=>by simp[rG,rH] at h)).trans (RL h1))))
theorem AYE {l:List ByteArray} (h:l.length≤140737488355328):tV (rI l)=some (T.v (.bool (lU l))):=by
 have h1:AHB (rI l)=some (T.v (.bool (lU l))):=by rw[AYD];exact dX _ h
 exact ((n9 (gJ fun x h=>by simp[rE,rI] at h)).trans ((n9 (gJ fun x h=>by simp[rF,rI] at h)).trans ((n9 (gJ fun x h=>by simp[rG,rI] at h)).trans ((n9 (gJ fun x h=>by simp[rH,rI] at h)).trans h1))))
abbrev SP (d:aF) (m1 m2 m3 m4:List (ByteArray×Int)):T:=T.ref [T.ref (aM.enc d),T.mp (bE m1),T.mp (bE m2),T.mp (bE m3),T.mp (bE m4)]
end Go.Pv
namespace Go.Pv
open Go Go.Proofs
abbrev xU:Sh:=[(false,.bool)]
abbrev A3G:Sh:=[(false,.li .str)]
def yF (x:ByteArray×ByteArray):Option T:=match decide (x.1.size<4294967281),decide (1≤x.2.size) with
 | true,true=>some (Sh.enc A3G (Lib.splitB x.2 0 (Lib.countB x.1 x.2) x.1))
 | _,_=>none
noncomputable def tX:List T→Option T:=gS [(false,.str),(false,.str)] yF
theorem AHE {a b:ByteArray}:tX [T.v (.string a),T.v (.string b)]=yF (a,b):=a6 (s:=[(false,.str),(false,.str)]) rfl (a,b) rfl
theorem ASZ:aK Tryz.prog 98 tX:=by
 refine ⟨QJ.entry,fun w own args vs r hG ho ha hg=>?_⟩
 obtain ⟨⟨a,b⟩,rfl,hx⟩:=LQ hg
 unfold yF at hx
 split at hx
 ·rename_i h1 h2
  cases hx
  have hs:IF [.v (.string a),.v (.string b)]=some (.sl true ((Lib.splitB b 0 (Lib.countB a b) a).map fun x=>[.v (.string x)])):=by
   unfold IF
   simp only[h1,h2]
  refine (QJ.calls w own _ vs _ hG ho ha hs).mono ?_
  rintro e w' ⟨v,rfl,hr,hb⟩
  exact ⟨v,rfl,hr.canon 0,hb⟩
 ·cases hx
end Go.Pv
namespace Go.Pv
open Go Go.Proofs
def gL (n:Int):Bool:=(decide (97≤n)&&decide (n≤122))||(decide (65≤n)&&decide (n≤90))
def nU (n:Int):Bool:=decide (48≤n)&&decide (n≤57)
def nameAt (i:Nat) (b:UInt8):Bool:=gL b.toNat||(decide (i≠0)&&(nU b.toNat||decide ((b.toNat:Int)=95)||decide ((b.toNat:Int)=45)))
def isName (s:ByteArray):Bool:=decide (s.size≠0)&&decide (s.size≤16)&&(List.range s.size).all fun i=>match s.data[i]? with|some b=>nameAt i b|none=>true
def JD (n:Int):Option T:=some (Sh.enc xU (gL n))
def R8 (n:Int):Option T:=some (Sh.enc xU (nU n))
def r6 (s:ByteArray):Option T:=some (Sh.enc xU (isName s))
abbrev AK:=r6
def A3Q (l:List ByteArray):Int:=(l.length:Int)-1+nQ l
def yD (s:ByteArray):Option T:=match decide (s.size≤1099511627776) with
 | true=>some (Sh.enc A3G (cZ s))
 | false=>none
def yC (l:List ByteArray):Option T:=match decide (l.length≤65)&&decide (nQ l≤64) with
 | true=>some (Sh.enc xU (l.all isName&&(decide (1≤l.length)&&decide (l.length≤8)&&decide (A3Q l≤64))))
 | false=>none
def gP (s:ByteArray):Bool:=decide (s.size≤64)&&decide ((cZ s).length≤8)&&(cZ s).all isName
def MF (s:ByteArray):Option T:=some (Sh.enc xU (gP s))
def uJ (s:ByteArray):Option T:=match decide (s.size≤1099511627776) with
 | true=>some (Sh.enc xU (gP s))
 | false=>none
theorem cE {n:Nat} {f:Nat→Bool}:(List.range n).all f=true↔∀ i,i<n→f i=true:=by simp
theorem VD {s:ByteArray} (h0:s.size≠0) (h1:s.size≤16) (h2:∀ i b,s.data[i]? = some b→nameAt i b=true):isName s=true:=by
 unfold isName
 simp only[h0,h1,decide_true,Bool.true_and,Bool.and_eq_true,cE,ne_eq,not_false_eq_true,true_and]
 intro i hi
 split
 ·rename_i b hb;exact h2 i b hb
 ·rfl
theorem kE {s:ByteArray} (h:s.size=0∨16<s.size∨∃ i b,s.data[i]? = some b∧nameAt i b=false):isName s=false:=by
 rw[Bool.eq_false_iff]
 intro hn
 unfold isName at hn
 simp only[Bool.and_eq_true,cE,decide_eq_true_eq] at hn
 rcases h with h|h|⟨i,b,hb,hf⟩
 ·exact hn.1.1 h
 ·have:=hn.1.2;omega
 ·have hi:i<s.size:=(Array.getElem?_eq_some_iff.1 hb).1
  have:=hn.2 i hi
  rw[hb] at this
  simp only[hf] at this
  cases this
theorem K1 (b:UInt8):nameAt 0 b=gL b.toNat:=by simp[nameAt]
theorem wY {s:ByteArray} {k:Nat} {b:UInt8} (h:s.data[k]? = some b) {K:Int→Prop} (hk:K b.toNat):DK s (k:Int) K:=⟨b,by omega,by rwa[Int.toNat_natCast],hk⟩
theorem ALC {s:ByteArray} {b:UInt8} (h:s.data[0]? = some b) {K:Int→Prop} (hk:K b.toNat):DK s 0 K:=⟨b,by omega,h,hk⟩
theorem LN {s:ByteArray}:s = { data:=#[] }↔s.size=0:=⟨fun e=>by subst e;rfl,fun e=>ByteArray.ext (Array.eq_empty_of_size_eq_zero e)⟩
theorem AMT {s:ByteArray} {k:Nat} (h:k<s.size):∃ b,s.data[k]? = some b:=⟨s.data[k]'h,by simp⟩
noncomputable def MW:Env:=Env.of []
def ADX:FuncId→Hint:=fun _=>aT
theorem AJL:aE Tryz.prog MW:=aE.nil _
def N6 (a0:Int) (R:T→Prop):Prop :=
 aB (decide (97≤a0))
 (aB (decide (a0≤122)) (R (T.v (.bool true)))
 (aB (decide (65≤a0)) (R (T.v (.bool (decide (a0≤90)))))
 (R (T.v (.bool false)))))
 (aB (decide (65≤a0)) (R (T.v (.bool (decide (a0≤90)))))
 (R (T.v (.bool false))))
theorem ACP ( a0 R):bA aW Tryz.prog MW ADX 8 113 [aC false (Sy.int IntKind.u8) a0] R=N6 a0 R:=by kernel_rfl
abbrev E7:Sh:=[(false,(Sy.int IntKind.u8))]
noncomputable def pG:List T→Option (T):=gS E7 JD
theorem KL {a0}:pG [T.v (Value.int IntKind.u8 a0)]=JD (a0):=a6 (s:=E7) rfl (a0) rfl
theorem ATW (h:∀ a0 r,JD (a0)=some r→bY E7 (a0)→N6 a0 (fun y=>y=r)):aK Tryz.prog 113 pG :=
 aP (E:=MW) (Hs:=ADX) AJL aU aV (aL rfl) 8 ⟨_,_,Tryz.func113,rfl⟩ rfl fun x r h1 h2=>by
  let a0:=x
  rw[show Sh.bK E7 (a0)=[aC false (Sy.int IntKind.u8) a0] from rfl,ACP]
  exact h a0 r h1 h2
theorem ASJ:aK Tryz.prog 113 pG:=ATW fun n r h hb=>by
 have h':some (Sh.enc xU (gL n))=some r:=h
 cases h'
 clear h
 unfold N6
 simp only[EB]
 by_cases h1:97≤n<;>by_cases h2:n≤122<;>by_cases h3:65≤n<;>by_cases h4:n≤90<;>simp[h1,h2,h3,h4,gL,Sh.enc,aC,Sy.enc,hdT]<;>omega
noncomputable def WN:Env:=Env.of []
def AOU:FuncId→Hint:=fun _=>aT
theorem AQY:aE Tryz.prog WN:=aE.nil _
def XE (a0:Int) (R:T→Prop):Prop :=
 aB (decide (48≤a0)) (R (T.v (.bool (decide (a0≤57))))) (R (T.v (.bool false)))
theorem AKK ( a0 R):bA aW Tryz.prog WN AOU 8 114 [aC false (Sy.int IntKind.u8) a0] R=XE a0 R:=by kernel_rfl
abbrev L2:Sh:=[(false,(Sy.int IntKind.u8))]
noncomputable def yU:List T→Option (T):=gS L2 R8
theorem AMH {a0}:yU [T.v (Value.int IntKind.u8 a0)]=R8 (a0):=a6 (s:=L2) rfl (a0) rfl
theorem AZL (h:∀ a0 r,R8 (a0)=some r→bY L2 (a0)→XE a0 (fun y=>y=r)):aK Tryz.prog 114 yU :=
 aP (E:=WN) (Hs:=AOU) AQY aU aV (aL rfl) 8 ⟨_,_,Tryz.func114,rfl⟩ rfl fun x r h1 h2=>by
  let a0:=x
  rw[show Sh.bK L2 (a0)=[aC false (Sy.int IntKind.u8) a0] from rfl,AKK]
  exact h a0 r h1 h2
theorem AXS:aK Tryz.prog 114 yU:=AZL fun n r h hb=>by
 have h':some (Sh.enc xU (nU n))=some r:=h
 cases h'
 clear h
 unfold XE
 simp only[EB]
 by_cases h1:48≤n<;>by_cases h2:n≤57<;>simp[h1,h2,nU,Sh.enc,aC,Sy.enc,hdT]
noncomputable def BM:Env:=Env.of [(113,.pure pG),(114,.pure yU)]
def O7:FuncId→Hint:=fun f=>match f == 74 with|true=>⟨fun r=>match r == 4 with|true=>.inv [.val 3 false (.int .i64)]|false=>.none,fun _ _=>none,fun _=>none⟩|false=>aT
theorem W4:aE Tryz.prog BM:=aE.cons (x:=.pure pG) ASJ (aE.cons (x:=.pure yU) AXS (aE.nil _))
def BV (a0:ByteArray) (R:T→Prop):Prop :=
 aB (decide (a0 = { data:=#[] })) (R (T.v (.bool false)))
 (aB (decide (16<(↑(ByteArray.size a0):Int))) (R (T.v (.bool false)))
 (DK a0 0 fun (y0:Int) =>
 aG [(false,Sy.bool)] (pG [T.v (Value.int IntKind.u8 y0)])
 fun (y1:Bool) =>
 aB (!y1) (R (T.v (.bool false)))
 (a7 (Int×PUnit)
 (fun (X2:Int×PUnit→Prop) (s3:Int×PUnit) =>
 aB (decide (s3.1<(↑(ByteArray.size a0):Int)))
 (DK a0 s3.1 fun (y4:Int) =>
 aG [(false,Sy.bool)] (pG [T.v (Value.int IntKind.u8 y4)])
 fun (y5:Bool) =>
 aB (!y5)
 (DK a0 s3.1 fun (y6:Int) =>
 aG [(false,Sy.bool)] (yU [T.v (Value.int IntKind.u8 y6)])
 fun (y7:Bool) =>
 aB (!y7)
 (DK a0 s3.1 fun (y8:Int) =>
 aB (!decide (y8=95))
 (DK a0 s3.1 fun (y9:Int) =>
 aB (!decide (y9=45)) (R (T.v (.bool false)))
 (X2 (IntKind.i64.wrap (s3.1+1),())))
 (X2 (IntKind.i64.wrap (s3.1+1),())))
 (X2 (IntKind.i64.wrap (s3.1+1),())))
 (X2 (IntKind.i64.wrap (s3.1+1),())))
 (R (T.v (.bool true))))
 (0,()))))
theorem S2 ( a0 R):bA aW Tryz.prog BM O7 8 74 [aC false Sy.str a0] R=BV a0 R:=by kernel_rfl
abbrev vV:Sh:=[(false,Sy.str)]
noncomputable def dD:List T→Option (T):=gS vV r6
theorem mO {a0}:dD [T.v (.string a0)]=r6 (a0):=a6 (s:=vV) rfl (a0) rfl
theorem AH4 (h:∀ a0 r,r6 (a0)=some r→bY vV (a0)→BV a0 (fun y=>y=r)):aK Tryz.prog 74 dD :=
 aP (E:=BM) (Hs:=O7) W4 aU aV (aL rfl) 8 ⟨_,_,Tryz.func74,rfl⟩ rfl fun x r h1 h2=>by
  let a0:=x
  rw[show Sh.bK vV (a0)=[aC false Sy.str a0] from rfl,S2]
  exact h a0 r h1 h2
theorem rO:aK Tryz.prog 74 dD:=AH4 fun s r h hb=>by
 have h':some (Sh.enc xU (isName s))=some r:=h
 cases h'
 clear h
 unfold BV
 by_cases h0:s.size=0
 ·exact cU (LN.2 h0) (by rw[kE (.inl h0)];rfl)
 refine dH (fun e=>h0 (LN.1 e)) ?_
 by_cases h16:16<s.size
 ·exact cU (by omega) (by rw[kE (.inr (.inl h16))];rfl)
 refine dH (by omega) ?_
 obtain ⟨b0,hb0⟩:=AMT (show 0<s.size by omega)
 refine ALC hb0 (aD (s:=xU) (y:=gL b0.toNat) KL ?_)
 cases hl0:gL b0.toNat with
 | false=>exact (by rw[kE (.inr (.inr ⟨0,b0,hb0,by rw[K1];exact hl0⟩))];rfl)
 | true =>
  rw[Bool.not_true,fS]
  refine aY s.size (fun k t=>t=((k:Int),())∧∀ i b,i<k→s.data[i]? = some b→nameAt i b=true) ⟨rfl,by simp⟩ ?_
  rintro X k t hk ⟨rfl,hno⟩ hX
  dsimp only
  by_cases hlt:k<s.size
  ·refine cU (by omega) ?_
   obtain ⟨b,hb⟩:=AMT hlt
   have hw:IntKind.i64.wrap ((k:Int)+1)=((k+1:Nat):Int):=aQ _ (by omega) (by omega)
   have go:nameAt k b=true→X (IntKind.i64.wrap ((k:Int)+1),()):=fun hn=>hX _ hlt ⟨by rw[hw],fun i b' hi hb'=>by
    by_cases e:i=k
    ·subst e;rw[hb] at hb';cases hb';exact hn
    ·exact hno i b' (by omega) hb'⟩
   have hzero:gL b.toNat=false→k≠0:=fun hf e=>by subst e;rw[hb] at hb0;cases hb0;rw[hf] at hl0;cases hl0
   have stop:nameAt k b=false→T.v (.bool false)=Sh.enc xU (isName s):=fun hn=>by rw[kE (.inr (.inr ⟨k,b,hb,hn⟩))];rfl
   refine wY hb (aD (s:=xU) (y:=gL b.toNat) KL ?_)
   cases hl:gL b.toNat with
   | true=>rw[Bool.not_true,fS];exact go (by simp[nameAt,hl])
   | false =>
    have hk0:=hzero hl
    rw[Bool.not_false,eO]
    refine wY hb (aD (s:=xU) (y:=nU b.toNat) AMH ?_)
    cases hd:nU b.toNat with
    | true=>rw[Bool.not_true,fS];exact go (by simp[nameAt,hl,hk0,hd])
    | false =>
     rw[Bool.not_false,eO]
     refine wY hb ?_
     by_cases h95:(b.toNat:Int)=95
     ·exact IP h95 (go (by simp[nameAt,hl,hk0,hd,h95]))
     ·refine Q1 h95 (wY hb ?_)
      by_cases h45:(b.toNat:Int)=45
      ·exact IP h45 (go (by simp[nameAt,hl,hk0,hd,h45]))
      ·exact Q1 h45 (stop (by
        unfold nameAt
        rw[hl,hd,decide_eq_false h95,decide_eq_false h45];simp))
  ·refine dH (by omega) ?_
   rw[VD h0 (by omega) (fun i b h=>hno i b (by have:=(Array.getElem?_eq_some_iff.1 h).1;have:i<s.size:=this;omega) h)];rfl
noncomputable def MV:Env:=Env.of []
def ADW:FuncId→Hint:=fun f=>match f == 22 with|true=>⟨fun r=>match r == 4 with|true=>.inv [.jM 0]|false=>.none,fun i j=>match i == 6&&j == 6 with|true=>some [.val 5 false .bool,.fix 0]|false=>match i == 7&&j == 7 with|true=>some [.val 6 false .bool,.fix 0]|false=>none,fun _=>none⟩|false=>aT
theorem AJK:aE Tryz.prog MV:=aE.nil _
def N4 (a0:ByteArray) (R:T→Prop):Prop :=
 aB (decide (a0 = { data:=#[] })) (R (T.v (.bool false)))
 (aB (decide (16<(↑(ByteArray.size a0):Int))) (R (T.v (.bool false)))
 (a7 ((ByteArray×Nat)×PUnit)
 (fun (X0:(ByteArray×Nat)×PUnit→Prop) (s1:(ByteArray×Nat)×PUnit) =>
 aB (decide (s1.1.2<s1.1.1.size))
 (rU (Bool×PUnit×PUnit)
 (fun (X2:Bool×PUnit×PUnit→Prop) =>
 aB (decide (65≤(↑(Utf8.decode s1.1.1 s1.1.2).1:Int)))
 (aB (decide ((↑(Utf8.decode s1.1.1 s1.1.2).1:Int)≤90))
 (fB (a8.jM s1.1.1 (s1.1.2+(Utf8.decode s1.1.1 s1.1.2).2))
 (a8.jM s1.1.1 (s1.1.2+(Utf8.decode s1.1.1 s1.1.2).2))
 (X2 (true,(),())))
 (aB (decide (97≤(↑(Utf8.decode s1.1.1 s1.1.2).1:Int)))
 (fB (a8.jM s1.1.1 (s1.1.2+(Utf8.decode s1.1.1 s1.1.2).2))
 (a8.jM s1.1.1 (s1.1.2+(Utf8.decode s1.1.1 s1.1.2).2))
 (X2 (decide ((↑(Utf8.decode s1.1.1 s1.1.2).1:Int)≤122),(),())))
 (fB (a8.jM s1.1.1 (s1.1.2+(Utf8.decode s1.1.1 s1.1.2).2))
 (a8.jM s1.1.1 (s1.1.2+(Utf8.decode s1.1.1 s1.1.2).2))
 (X2 (false,(),())))))
 (aB (decide (97≤(↑(Utf8.decode s1.1.1 s1.1.2).1:Int)))
 (fB (a8.jM s1.1.1 (s1.1.2+(Utf8.decode s1.1.1 s1.1.2).2))
 (a8.jM s1.1.1 (s1.1.2+(Utf8.decode s1.1.1 s1.1.2).2))
 (X2 (decide ((↑(Utf8.decode s1.1.1 s1.1.2).1:Int)≤122),(),())))
 (fB (a8.jM s1.1.1 (s1.1.2+(Utf8.decode s1.1.1 s1.1.2).2))
 (a8.jM s1.1.1 (s1.1.2+(Utf8.decode s1.1.1 s1.1.2).2))
 (X2 (false,(),())))))
 fun (s3:Bool×PUnit×PUnit) =>
 rU (Bool×PUnit×PUnit)
 (fun (X4:Bool×PUnit×PUnit→Prop) =>
 aB (decide (48≤(↑(Utf8.decode s1.1.1 s1.1.2).1:Int)))
 (aB (decide ((↑(Utf8.decode s1.1.1 s1.1.2).1:Int)≤57))
 (fB (a8.jM s1.1.1 (s1.1.2+(Utf8.decode s1.1.1 s1.1.2).2))
 (a8.jM s1.1.1 (s1.1.2+(Utf8.decode s1.1.1 s1.1.2).2))
 (X4 (true,(),())))
 (aB (decide ((↑(Utf8.decode s1.1.1 s1.1.2).1:Int)=95))
 (fB (a8.jM s1.1.1 (s1.1.2+(Utf8.decode s1.1.1 s1.1.2).2))
 (a8.jM s1.1.1 (s1.1.2+(Utf8.decode s1.1.1 s1.1.2).2))
 (X4 (true,(),())))
 (fB (a8.jM s1.1.1 (s1.1.2+(Utf8.decode s1.1.1 s1.1.2).2))
 (a8.jM s1.1.1 (s1.1.2+(Utf8.decode s1.1.1 s1.1.2).2))
 (X4 (decide ((↑(Utf8.decode s1.1.1 s1.1.2).1:Int)=45),(),())))))
 (aB (decide ((↑(Utf8.decode s1.1.1 s1.1.2).1:Int)=95))
 (fB (a8.jM s1.1.1 (s1.1.2+(Utf8.decode s1.1.1 s1.1.2).2))
 (a8.jM s1.1.1 (s1.1.2+(Utf8.decode s1.1.1 s1.1.2).2))
 (X4 (true,(),())))
 (fB (a8.jM s1.1.1 (s1.1.2+(Utf8.decode s1.1.1 s1.1.2).2))
 (a8.jM s1.1.1 (s1.1.2+(Utf8.decode s1.1.1 s1.1.2).2))
 (X4 (decide ((↑(Utf8.decode s1.1.1 s1.1.2).1:Int)=45),(),())))))
 fun (s5:Bool×PUnit×PUnit) =>
 aB (!s3.1)
 (aB (decide ((↑s1.1.2:Int)=0)) (R (T.v (.bool false)))
 (aB (!s5.1) (R (T.v (.bool false)))
 (X0 ((s1.1.1,s1.1.2+(Utf8.decode s1.1.1 s1.1.2).2),()))))
 (X0 ((s1.1.1,s1.1.2+(Utf8.decode s1.1.1 s1.1.2).2),())))
 (R (T.v (.bool true))))
 ((a0,0),())))
theorem ACO ( a0 R):bA aW Tryz.prog MV ADW 8 22 [aC false Sy.str a0] R=N4 a0 R:=by kernel_rfl
abbrev E6:Sh:=[(false,Sy.str)]
abbrev ES:Sh:=[(false,Sy.bool)]
theorem TN (y:Sh.den ES) (K:Sh.den ES→Prop):aG ES (some (Sh.enc ES y)) K=K y:=lV rfl y K
noncomputable def eM:List T→Option (T):=gS E6 AK
theorem xA {a0}:eM [T.v (.string a0)]=AK (a0):=a6 (s:=E6) rfl (a0) rfl
theorem ATV (h:∀ a0 r,AK (a0)=some r→bY E6 (a0)→N4 a0 (fun y=>y=r)):aK Tryz.prog 22 eM :=
 aP (E:=MV) (Hs:=ADW) AJK aU aV (aL rfl) 8 ⟨_,_,Tryz.func22,rfl⟩ rfl fun x r h1 h2=>by
  let a0:=x
  rw[show Sh.bK E6 (a0)=[aC false Sy.str a0] from rfl,ACO]
  exact h a0 r h1 h2
theorem AHK (c:Int) {K:Bool×PUnit×PUnit→Prop} (hX:K (gL c,(),())):rU (Bool×PUnit×PUnit) (fun X=>aB (decide (65≤c)) (aB (decide (c≤90)) (X (true,(),())) (aB (decide (97≤c)) (X (decide (c≤122),(),())) (X (false,(),())))) (aB (decide (97≤c)) (X (decide (c≤122),(),())) (X (false,(),())))) K:=by
 simp only[EB,yZ]
 unfold gL at hX
 by_cases h1:65≤c<;>by_cases h2:c≤90<;>by_cases h3:97≤c<;>by_cases h4:c≤122<;>simp[h1,h2,h3,h4] at hX ⊢ <;> first|exact hX|omega
theorem ZD (c:Int) {K:Bool×PUnit×PUnit→Prop} (hX:K (nU c||decide (c=95)||decide (c=45),(),())):rU (Bool×PUnit×PUnit) (fun X=>aB (decide (48≤c)) (aB (decide (c≤57)) (X (true,(),())) (aB (decide (c=95)) (X (true,(),())) (X (decide (c=45),(),())))) (aB (decide (c=95)) (X (true,(),())) (X (decide (c=45),(),())))) K:=by
 simp only[EB,yZ]
 unfold nU at hX
 by_cases h1:48≤c<;>by_cases h2:c≤57<;>by_cases h3:c=95<;>simp[h1,h2,h3] at hX ⊢ <;> first|exact hX|omega
theorem yR:aK Tryz.prog 22 eM:=ATV fun s r h hb=>by
 have h':some (Sh.enc xU (isName s))=some r:=h
 cases h'
 clear h
 unfold N4
 by_cases h0:s.size=0
 ·exact cU (LN.2 h0) (by rw[kE (.inl h0)];rfl)
 refine dH (fun e=>h0 (LN.1 e)) ?_
 by_cases h16:16<s.size
 ·exact cU (by omega) (by rw[kE (.inr (.inl h16))];rfl)
 refine dH (by omega) ?_
 refine aY s.size (fun k t=>t=((s,k),())∧∀ i b,i<k→s.data[i]? = some b→nameAt i b=true) ⟨rfl,by simp⟩ ?_
 rintro X k t hk ⟨rfl,hno⟩ hX
 simp only[cG]
 by_cases hlt:k<s.size
 ·refine cU hlt ?_
  have hb:s.data[k]? = some (s[k]'hlt):=by
   rw[Array.getElem?_eq_getElem hlt];rfl
  refine AHK (Utf8.decode s k).1 ?_
  refine ZD (Utf8.decode s k).1 ?_
  dsimp only
  have stop:nameAt k (s[k]'hlt)=false→T.v (.bool false)=Sh.enc xU (isName s):=fun hn=>by rw[kE (.inr (.inr ⟨k,_,hb,hn⟩))];rfl
  by_cases hasc:(s[k]'hlt).toNat<128
  ·have hd:=decode_ascii s k hlt hasc
   have go:nameAt k (s[k]'hlt)=true→X ((s,k+(Utf8.decode s k).2),()):=fun hn=>by
    rw[hd]
    exact hX _ hlt ⟨rfl,fun i b' hi hb'=>by
     by_cases e:i=k
     ·subst e;rw[hb] at hb';cases hb';exact hn
     ·exact hno i b' (by omega) hb'⟩
   have e1:((Utf8.decode s k).1:Int)=((s[k]'hlt).toNat:Int):=by rw[hd]
   rw[e1]
   cases hl:gL ((s[k]'hlt).toNat:Int) with
   | true=>rw[Bool.not_true,fS];exact go (by simp[nameAt,hl])
   | false =>
    rw[Bool.not_false,eO]
    by_cases hk0:k=0
    ·exact cU (by omega) (stop (by subst hk0;rw[K1];exact hl))
    ·refine dH (by omega) ?_
     cases hf:(nU ((s[k]'hlt).toNat:Int)||decide (((s[k]'hlt).toNat:Int)=95)||decide (((s[k]'hlt).toNat:Int)=45)) with
     | true=>rw[Bool.not_true,fS];exact go (by unfold nameAt;rw[hl,hf];simp[hk0])
     | false=>rw[Bool.not_false,eO];exact stop (by unfold nameAt;rw[hl,hf];simp)
  ·obtain ⟨hd1,hd2⟩:=decode_high s k hlt (by omega)
   have hl:gL ((Utf8.decode s k).1:Int)=false:=by
    unfold gL;simp;omega
   have hf:(nU ((Utf8.decode s k).1:Int)||decide (((Utf8.decode s k).1:Int)=95)||decide (((Utf8.decode s k).1:Int)=45))=false:=by
    unfold nU;simp;omega
   have hn:nameAt k (s[k]'hlt)=false:=by
    unfold nameAt gL nU;simp;omega
   rw[hl,hf,Bool.not_false,eO]
   by_cases hk0:k=0
   ·exact cU (by omega) (stop hn)
   ·refine dH (by omega) ?_
    rw[eO]
    exact stop hn
 ·refine dH hlt ?_
  rw[VD h0 (by omega) (fun i b h=>hno i b (by have:=(Array.getElem?_eq_some_iff.1 h).1;have:i<s.size:=this;omega) h)];rfl
noncomputable def WV:Env:=Env.of []
def AO1:FuncId→Hint:=fun f=>match f == 115 with|true=>⟨fun r=>match r == 4 with|true=>.inv [.own 3 1 .str,.val 4 false (.int .i64),.val 5 false (.int .i64)]|false=>.none,fun _ _=>none,fun _=>none⟩|false=>aT
theorem AQ5:aE Tryz.prog WV:=aE.nil _
def XV (a0:ByteArray) (R:T→Prop):Prop :=
 a7 (List ByteArray×Int×Int×PUnit)
 (fun (X0:List ByteArray×Int×Int×PUnit→Prop) (s1:List ByteArray×Int×Int×PUnit) =>
 aB (decide (s1.2.2.1≤(↑(ByteArray.size a0):Int)))
 (aB (decide (s1.2.2.1=(↑(ByteArray.size a0):Int)))
 (bV
 (decide (0≤s1.2.2.1)&&decide (Int.toNat s1.2.2.1≤ByteArray.size a0) &&
 (decide (0≤s1.2.1)&&decide (Int.toNat s1.2.1≤Int.toNat s1.2.2.1)))
 (bV
 (decide (((List.map Sy.str.enc s1.1).length+1)*16≤140737488355328) &&
 decide ((List.map Sy.str.enc s1.1).length+1≤140737488355328))
 (bX Sy.str
 (List.map Sy.str.enc s1.1 ++
 [[T.v
 (Value.string (ByteArray.extract a0 (Int.toNat s1.2.1) (Int.toNat s1.2.2.1)))]])
 fun (y2:List ByteArray) =>
 X0 (y2,IntKind.i64.wrap (s1.2.2.1+1),IntKind.i64.wrap (s1.2.2.1+1),()))))
 (DK a0 s1.2.2.1 fun (y3:Int) =>
 aB (decide (y3=46))
 (bV
 (decide (0≤s1.2.2.1)&&decide (Int.toNat s1.2.2.1≤ByteArray.size a0) &&
 (decide (0≤s1.2.1)&&decide (Int.toNat s1.2.1≤Int.toNat s1.2.2.1)))
 (bV
 (decide (((List.map Sy.str.enc s1.1).length+1)*16≤140737488355328) &&
 decide ((List.map Sy.str.enc s1.1).length+1≤140737488355328))
 (bX Sy.str
 (List.map Sy.str.enc s1.1 ++
 [[T.v
 (Value.string (ByteArray.extract a0 (Int.toNat s1.2.1) (Int.toNat s1.2.2.1)))]])
 fun (y4:List ByteArray) =>
 X0 (y4,IntKind.i64.wrap (s1.2.2.1+1),IntKind.i64.wrap (s1.2.2.1+1),()))))
 (bX Sy.str (List.map Sy.str.enc s1.1) fun (y5:List ByteArray) =>
 X0 (y5,s1.2.1,IntKind.i64.wrap (s1.2.2.1+1),()))))
 (R (T.sl false (List.map Sy.str.enc s1.1))))
 ([],0,0,())
theorem AKW ( a0 R):bA aW Tryz.prog WV AO1 8 115 [aC false Sy.str a0] R=XV a0 R:=by kernel_rfl
abbrev L9:Sh:=[(false,Sy.str)]
noncomputable def yY:List T→Option (T):=gS L9 yD
theorem AMN {a0}:yY [T.v (.string a0)]=yD (a0):=a6 (s:=L9) rfl (a0) rfl
theorem AZS (h:∀ a0 r,yD (a0)=some r→bY L9 (a0)→XV a0 (fun y=>y=r)):aK Tryz.prog 115 yY :=
 aP (E:=WV) (Hs:=AO1) AQ5 aU aV (aL rfl) 8 ⟨_,_,Tryz.func115,rfl⟩ rfl fun x r h1 h2=>by
  let a0:=x
  rw[show Sh.bK L9 (a0)=[aC false Sy.str a0] from rfl,AKW]
  exact h a0 r h1 h2
theorem DV (s:ByteArray) (f k:Nat):(s.extract f k).data.toList=(s.data.toList.drop f).take (k-f):=by
 rw[ByteArray.data_extract,Array.toList_extract,List.extract_eq_take_drop]
theorem AXN {s:ByteArray} {f k:Nat} {b:UInt8} (h1:f≤k) (h:s.data[k]? = some b):(s.extract f (k+1)).data.toList=(s.extract f k).data.toList++[b]:=by
 rw[DV,DV]
 have e:k+1-f=(k-f)+1:=by omega
 rw[e,List.take_add_one]
 congr 1
 rw[List.getElem?_drop,show f+(k-f)=k by omega,Array.getElem?_toList,h];rfl
theorem AXF {s:ByteArray} {k:Nat} {b:UInt8} (h:s.data[k]? = some b):s.data.toList.drop k=b::s.data.toList.drop (k+1):=by
 obtain ⟨hk,e⟩:=Array.getElem?_eq_some_iff.1 h
 rw[List.drop_eq_getElem_cons (by simpa using hk),Array.getElem_toList,e]
theorem AXW:aK Tryz.prog 115 yY:=AZS fun s r h hb=>by
 unfold yD at h
 split at h
 ·rename_i hsz
  have hsz:s.size≤1099511627776:=of_decide_eq_true hsz
  cases h
  unfold XV
  refine aY (s.size+1) (fun k t=>∃ (out:List ByteArray) (f:Nat),t=(out,(f:Int),(k:Int),())∧out.length≤k∧((k≤s.size∧f≤k∧out.map (·.data.toList)++TO (s.extract f k).data.toList (s.data.toList.drop k)=SI s.data.toList)∨(k=s.size+1∧out=cZ s)))
   ⟨[],0,rfl,by simp,.inl ⟨by omega,by omega,by rw[DV];simp[AIQ]⟩⟩ ?_
  rintro X k t hk ⟨out,f,rfl,hol,hJ⟩ hX
  dsimp only
  have hreq:f≤k→k≤s.size→∀ K:Prop,K→bV (decide (0≤(k:Int))&&decide (Int.toNat (k:Int)≤ByteArray.size s)&&(decide (0≤(f:Int))&&decide (Int.toNat (f:Int)≤Int.toNat (k:Int)))) K:=fun h1 h2 K hK=>⟨by simp;omega,hK⟩
  have happ:∀ K:Prop,K→bV (decide (((List.map Sy.str.enc out).length+1)*16≤140737488355328)&&decide ((List.map Sy.str.enc out).length+1≤140737488355328)) K:=fun K hK=>⟨by simp only[List.length_map,Bool.and_eq_true,decide_eq_true_eq];omega,hK⟩
  have hdec:∀ (x:ByteArray) (K:List ByteArray→Prop),K (out++[x])→bX Sy.str (List.map Sy.str.enc out++[[T.v (.string x)]]) K:=fun x K hK=>by
   rw[tI (r:=.str) rfl out _ x rfl];exact hK
  rcases hJ with ⟨hks,hfk,he⟩|⟨rfl,rfl⟩
  ·have hw:IntKind.i64.wrap ((k:Int)+1)=((k+1:Nat):Int):=aQ _ (by omega) (by omega)
   refine cU (by omega) ?_
   by_cases hend:k=s.size
   ·subst hend
    refine cU rfl (hreq hfk hks _ (happ _ (hdec _ _ ?_)))
    refine hX _ (by omega) ⟨out++[s.extract f s.size],s.size+1,by rw[hw];simp,by simp;omega,.inr ⟨rfl,parts_eq ?_⟩⟩
    rw[List.drop_eq_nil_of_le (by rw[Array.length_toList];exact Nat.le_refl _),A0M] at he
    rw[←he];simp
   ·refine dH (by omega) ?_
    obtain ⟨b,hb⟩:=AMT (show k<s.size by omega)
    refine wY hb ?_
    rw[AXF hb] at he
    by_cases h46:(b.toNat:Int)=46
    ·refine cU h46 (hreq hfk hks _ (happ _ (hdec _ _ ?_)))
     have hb46:b=46:=by
      apply UInt8.toNat_inj.1
      have:(46:UInt8).toNat=46:=rfl
      omega
     subst hb46
     rw[A0L] at he
     refine hX _ (by omega) ⟨out++[s.extract f k],k+1,by rw[hw];simp,by simp;omega,.inl ⟨by omega,by omega,?_⟩⟩
     rw[←he,DV s (k+1) (k+1)]
     simp[AIQ]
    ·refine dH h46 ?_
     rw[dM (r:=.str) rfl]
     have hb46:b≠46:=fun e=>h46 (by subst e;rfl)
     rw[AU7 _ _ hb46,←AXN hfk hb] at he
     exact hX _ (by omega) ⟨out,f,by rw[hw],by omega,.inl ⟨by omega,by omega,he⟩⟩
  ·exact dH (by omega) rfl
 ·cases h
noncomputable def WS:Env:=Env.of [(22,.pure eM)]
def AOY:FuncId→Hint:=fun f=>match f == 97 with|true=>⟨fun r=>match r == 3 with|true=>.inv [.val 3 false (.int .i64),.val 11 false (.int .i64)]|false=>.none,fun _ _=>none,fun _=>none⟩|false=>aT
theorem AQ2:aE Tryz.prog WS:=aE.cons (x:=.pure eM) yR (aE.nil _)
def XM (a0:List ByteArray) (R:T→Prop):Prop :=
 a7 (Int×Int×PUnit)
 (fun (X0:Int×Int×PUnit→Prop) (s1:Int×Int×PUnit) =>
 aB (decide (s1.2.1<(↑(List.map Sy.str.enc a0).length:Int)))
 (aO Sy.str (List.map Sy.str.enc a0) s1.2.1 fun (y2:ByteArray) =>
 aG [(false,Sy.bool)] (eM [T.v (.string y2)]) fun (y3:Bool) =>
 aB (!y3) (R (T.v (.bool false)))
 (X0 (IntKind.i64.wrap (s1.1+(↑y2.size:Int)),IntKind.i64.wrap (s1.2.1+1),())))
 (aB (decide (1≤(↑(List.map Sy.str.enc a0).length:Int)))
 (aB (decide ((↑(List.map Sy.str.enc a0).length:Int)≤8))
 (R (T.v (.bool (decide (s1.1≤64))))) (R (T.v (.bool false))))
 (R (T.v (.bool false)))))
 (IntKind.i64.wrap ((↑(List.map Sy.str.enc a0).length:Int)-1),0,())
theorem AKR ( a0 R):bA aW Tryz.prog WS AOY 8 97 [aC false Sy.str.li a0] R=XM a0 R:=by kernel_rfl
abbrev L6:Sh:=[(false,Sy.str.li)]
noncomputable def yV:List T→Option (T):=gS L6 yC
theorem AMK {a0}:yV [T.sl false (List.map Sy.str.enc a0)]=yC (a0):=a6 (s:=L6) rfl (a0) rfl
theorem AZP (h:∀ a0 r,yC (a0)=some r→bY L6 (a0)→XM a0 (fun y=>y=r)):aK Tryz.prog 97 yV :=
 aP (E:=WS) (Hs:=AOY) AQ2 aU aV (aL rfl) 8 ⟨_,_,Tryz.func97,rfl⟩ rfl fun x r h1 h2=>by
  let a0:=x
  rw[show Sh.bK L6 (a0)=[aC false Sy.str.li a0] from rfl,AKR]
  exact h a0 r h1 h2
theorem DD:∀ (l:List ByteArray) (x:ByteArray),nQ (l++[x])=nQ l+x.size
 | [],x=>by simp[nQ]
 | a::l,x=>by simp only[List.cons_append,nQ,DD l x];omega
theorem SN:∀ (l:List ByteArray) (k:Nat),nQ (l.take k)≤nQ l
 | [],k=>by simp
 | a::l,0=>by simp[nQ]
 | a::l,k+1=>by simp only[List.take_succ_cons,nQ];have:=SN l k;omega
theorem AXU:aK Tryz.prog 97 yV:=AZP fun l r h hb=>by
 unfold yC at h
 split at h
 ·rename_i hsz
  simp only[Bool.and_eq_true,decide_eq_true_eq] at hsz
  obtain ⟨hl65,hs64⟩:=hsz
  cases h
  unfold XM
  refine aY l.length (fun k t=>t=((l.length:Int)-1+nQ (l.take k),(k:Int),())∧(l.take k).all isName=true) ⟨by
   simp only[List.take_zero,nQ,List.length_map,Prod.mk.injEq,and_true]
   rw[aQ _ (by omega) (by omega)];simp,by simp⟩ ?_
  rintro X k t hk ⟨rfl,hall⟩ hX
  dsimp only
  by_cases hlt:k<l.length
  ·refine cU (by simp[hlt]) ?_
   rw[aS (r:=.str) hlt]
   refine aD (s:=xU) (y:=isName l[k]) xA ?_
   have hsum:=SN l (k+1)
   have htake:l.take (k+1)=l.take k++[l[k]]:=List.take_succ_eq_append_getElem hlt
   cases hn:isName l[k] with
   | false =>
    rw[Bool.not_false,eO]
    have:l.all isName=false:=by
     rw[Bool.eq_false_iff];intro ha
     have:=List.all_eq_true.1 ha _ (List.getElem_mem hlt)
     rw[hn] at this;cases this
    rw[this];rfl
   | true =>
    rw[Bool.not_true,fS]
    rw[htake,DD] at hsum
    refine hX _ hlt ⟨?_,by rw[htake,List.all_append,hall];simp[hn]⟩
    rw[htake,DD]
    simp only[Prod.mk.injEq,and_true]
    exact ⟨by rw[aQ _ (by omega) (by omega)];simp;omega,aQ _ (by omega) (by omega)⟩
  ·have:k=l.length:=by omega
   subst this
   rw[List.take_length] at hall
   refine dH (by simp) ?_
   rw[List.take_length,hall]
   by_cases h1:1≤l.length
   ·refine cU (by simp only[List.length_map];omega) ?_
    by_cases h2:l.length≤8
    ·refine cU (by simp only[List.length_map];omega) ?_
     rw[decide_eq_true h1,decide_eq_true h2];rfl
    ·refine dH (by simp only[List.length_map];omega) ?_
     rw[decide_eq_false h2,Bool.and_false];rfl
   ·refine dH (by simp only[List.length_map];omega) ?_
    rw[decide_eq_false h1];rfl
 ·cases h
noncomputable def AI5:Env:=Env.of [(98,.pure tX),(97,.pure yV)]
def AWQ:FuncId→Hint:=fun _=>aT
theorem AVU:aE Tryz.prog AI5:=aE.cons (x:=.pure tX) ASZ (aE.cons (x:=.pure yV) AXU (aE.nil _))
def AKQ (a0:ByteArray) (R:T→Prop):Prop :=
 aB (decide ((↑(ByteArray.size a0):Int)≤64))
 (aG [(false,Sy.str.li)]
 (tX [T.v (.string a0),T.v (.string { data:=#[46] })])
 fun (y0:List ByteArray) =>
 aG [(false,Sy.bool)] (yV [T.sl false (List.map Sy.str.enc y0)])
 fun (y1:Bool)=>R (T.v (.bool y1)))
 (R (T.v (.bool false)))
theorem ARD ( a0 R):bA aW Tryz.prog AI5 AWQ 8 66 [aC false Sy.str a0] R=AKQ a0 R:=by kernel_rfl
abbrev AAV:Sh:=[(false,Sy.str)]
abbrev AAO:Sh:=[(false,Sy.bool)]
theorem AIC (y:Sh.den AAO) (K:Sh.den AAO→Prop):aG AAO (some (Sh.enc AAO y)) K=K y:=lV rfl y K
noncomputable def dJ:List T→Option (T):=gS AAV MF
theorem AS5 {a0}:dJ [T.v (.string a0)]=MF (a0):=a6 (s:=AAV) rfl (a0) rfl
theorem A20 (h:∀ a0 r,MF (a0)=some r→bY AAV (a0)→AKQ a0 (fun y=>y=r)):aK Tryz.prog 66 dJ :=
 aP (E:=AI5) (Hs:=AWQ) AVU aU aV (aL rfl) 8 ⟨_,_,Tryz.func66,rfl⟩ rfl fun x r h1 h2=>by
  let a0:=x
  rw[show Sh.bK AAV (a0)=[aC false Sy.str a0] from rfl,ARD]
  exact h a0 r h1 h2
theorem LO:aK Tryz.prog 66 dJ:=A20 fun s r h hb=>by
 have h':some (Sh.enc xU (gP s))=some r:=h
 cases h'
 clear h
 unfold AKQ gP
 by_cases h64:s.size≤64
 ·refine cU (by omega) ?_
  have hsum:=VT s
  have hpos:=AUV s
  refine aD (s:=A3G) (y:=cZ s) ?_ ?_
  ·rw[show tX [T.v (.string s),T.v (.string { data:=#[46] })]=yF (s,dot) from AHE]
   unfold yF
   rw[show decide (s.size<4294967281)=true by simp;omega,show decide (1≤dot.size)=true from rfl]
   rfl
  ·refine aD (s:=xU) (y:=(cZ s).all isName&&(decide (1≤(cZ s).length)&&decide ((cZ s).length≤8)&&decide (A3Q (cZ s)≤64))) ?_ ?_
   ·rw[AMK]
    unfold yC
    rw[show (decide ((cZ s).length≤65)&&decide (nQ (cZ s)≤64))=true by simp;omega]
   ·have h1:decide (1≤(cZ s).length)=true:=decide_eq_true hpos
    have h2:decide (A3Q (cZ s)≤64)=true:=decide_eq_true (by unfold A3Q;omega)
    have h3:decide (s.size≤64)=true:=decide_eq_true h64
    rw[h1,h2,h3]
    simp[Bool.and_comm,Sh.enc,aC,Sy.enc,hdT]
 ·refine dH (by omega) ?_
  rw[decide_eq_false h64];rfl
noncomputable def MU:Env:=Env.of [(115,.pure yY),(74,.pure dD)]
def ADV:FuncId→Hint:=fun f=>match f == 79 with|true=>⟨fun r=>match r == 5 with|true=>.inv [.val 4 false (.int .i64)]|false=>.none,fun _ _=>none,fun _=>none⟩|false=>aT
theorem AJJ:aE Tryz.prog MU:=aE.cons (x:=.pure yY) AXW (aE.cons (x:=.pure dD) rO (aE.nil _))
def N3 (a0:ByteArray) (R:T→Prop):Prop :=
 aG [(false,Sy.str.li)] (yY [T.v (.string a0)]) fun (y0:List ByteArray) =>
 aB (decide (64<(↑(ByteArray.size a0):Int))) (R (T.v (.bool false)))
 (aB (decide (8<(↑(List.map Sy.str.enc y0).length:Int))) (R (T.v (.bool false)))
 (a7 (Int×PUnit)
 (fun (X1:Int×PUnit→Prop) (s2:Int×PUnit) =>
 aB (decide (s2.1<(↑(List.map Sy.str.enc y0).length:Int)))
 (aO Sy.str (List.map Sy.str.enc y0) s2.1 fun (y3:ByteArray) =>
 aG [(false,Sy.bool)] (dD [T.v (.string y3)])
 fun (y4:Bool) =>
 aB (!y4) (R (T.v (.bool false))) (X1 (IntKind.i64.wrap (s2.1+1),())))
 (R (T.v (.bool true))))
 (0,())))
theorem ACN ( a0 R):bA aW Tryz.prog MU ADV 8 79 [aC false Sy.str a0] R=N3 a0 R:=by kernel_rfl
abbrev E5:Sh:=[(false,Sy.str)]
noncomputable def dF:List T→Option (T):=gS E5 uJ
theorem AGA {a0}:dF [T.v (.string a0)]=uJ (a0):=a6 (s:=E5) rfl (a0) rfl
theorem ATU (h:∀ a0 r,uJ (a0)=some r→bY E5 (a0)→N3 a0 (fun y=>y=r)):aK Tryz.prog 79 dF :=
 aP (E:=MU) (Hs:=ADV) AJJ aU aV (aL rfl) 8 ⟨_,_,Tryz.func79,rfl⟩ rfl fun x r h1 h2=>by
  let a0:=x
  rw[show Sh.bK E5 (a0)=[aC false Sy.str a0] from rfl,ACN]
  exact h a0 r h1 h2
theorem yQ:aK Tryz.prog 79 dF:=ATU fun s r h hb=>by
 unfold uJ at h
 split at h
 ·rename_i hsz
  have h300:s.size≤1099511627776:=of_decide_eq_true hsz
  cases h
  unfold N3 gP
  have hsum:=VT s
  refine aD (s:=A3G) (y:=cZ s) (by rw[AMN];unfold yD;rw[hsz]) ?_
  generalize cZ s=l at *
  by_cases h64:64<s.size
  ·refine cU (by omega) ?_
   rw[decide_eq_false (show ¬ s.size≤64 by omega)];rfl
  ·refine dH (by omega) ?_
   rw[decide_eq_true (show s.size≤64 by omega)]
   by_cases h8:8<l.length
   ·refine cU (by simp only[List.length_map];omega) ?_
    rw[decide_eq_false (show ¬ l.length≤8 by omega)];rfl
   ·refine dH (by simp only[List.length_map];omega) ?_
    rw[decide_eq_true (show l.length≤8 by omega)]
    refine aY l.length (fun k t=>t=((k:Int),())∧(l.take k).all isName=true) ⟨rfl,by simp⟩ ?_
    rintro X k t hk ⟨rfl,hall⟩ hX
    dsimp only
    by_cases hlt:k<l.length
    ·refine cU (by simp[hlt]) ?_
     rw[aS (r:=.str) hlt]
     refine aD (s:=xU) (y:=isName l[k]) mO ?_
     cases hn:isName l[k] with
     | false =>
      rw[Bool.not_false,eO]
      have:l.all isName=false:=by
       rw[Bool.eq_false_iff];intro ha
       have:=List.all_eq_true.1 ha _ (List.getElem_mem hlt)
       rw[hn] at this;cases this
      rw[this];rfl
     | true =>
      rw[Bool.not_true,fS]
      exact hX _ hlt ⟨by rw[show IntKind.i64.wrap ((k:Int)+1)=((k+1:Nat):Int) from aQ _ (by omega) (by omega)],by rw[List.take_succ_eq_append_getElem hlt,List.all_append,hall];simp[hn]⟩
    ·have:k=l.length:=by omega
     subst this
     rw[List.take_length] at hall
     refine dH (by simp) ?_
     rw[hall];rfl
 ·cases h
end Go.Pv
namespace Go.Pv
open Go Go.Proofs
def Seen (es:List (ByteArray×Bool)) (S:ByteArray→Prop):Prop:=(∀ id b,iR es id=some b→b=true)∧∀ id,iR es id=some true↔S id
theorem Seen.nil:Seen [] fun _=>False:=⟨fun id b h=>(by cases h),fun id=>⟨fun h=>(by cases h),fun h=>h.elim⟩⟩
theorem Seen.ins {es:List (ByteArray×Bool)} {S:ByteArray→Prop} (h:Seen es S) (k:ByteArray):Seen (wL es k true) fun id=>S id∨k=id:=by
 refine ⟨fun id b hb=>?_,fun id=>?_⟩
 ·rw[xG] at hb
  split at hb
  ·cases hb;rfl
  ·exact h.1 id b hb
 ·rw[xG]
  split
  ·rename_i e;exact ⟨fun _=>.inr e,fun _=>rfl⟩
  ·rename_i e;rw[h.2];exact ⟨.inl,fun h=>h.resolve_right e⟩
theorem Seen.congr {es:List (ByteArray×Bool)} {S S':ByteArray→Prop} (h:Seen es S) (e:∀ id,S id↔S' id):Seen es S':=⟨h.1,fun id=>(h.2 id).trans (e id)⟩
abbrev RS:=List (Value×T)×Nat×List Nat×Nat
theorem AXI {m:List (ByteArray×Int)} {seen:List Nat} {i:Nat} (hi:i<m.length) (K:ByteArray→Int→Prop) (hk:K m[i].1 m[i].2):LD .str false (.int .i64) (qE (bE m)) (seen++[i]) K :=
 ⟨i,m[i].1,m[i].2,by simp,by simp only[qE,bE,List.map_map,List.getElem?_map,List.getElem?_eq_getElem hi];rfl,hk⟩
theorem A1R {m:List (ByteArray×Int)} {es:List (ByteArray×Bool)} {S:ByteArray→Prop} {R7 K:Prop} (hS:Seen es S) (hbad:(∃ i,∃ h:i<m.length,S m[i].1)→R7) (hgood:(∀ i (h:i<m.length),¬ S m[i].1)→K) :
  a7 (RS×PUnit) (fun (X:RS×PUnit→Prop) (s:RS×PUnit)=>bV (decide (s.1.1.length≤s.1.2.1)&&decide (s.1.2.1≤s.1.2.2.2)) (wZ s.1.1.length s.1.2.2.1 K fun (i:Nat) =>
   bV (decide (s.1.1.length=s.1.1.length)) (LD Sy.str false (Sy.int IntKind.i64) (qE s.1.1) (s.1.2.2.1++[i]) fun (k:ByteArray) (y:Int) =>
    gG TypeDesc.string (Value.string k) (List.map (cC Sy.str false Sy.bool) es) false Sy.bool (X ((s.1.1,s.1.2.1,s.1.2.2.1++[i],s.1.1.length),())) fun (j:Nat) (b:Bool) =>
     aB b R7 (X ((s.1.1,s.1.2.1,s.1.2.2.1++[i],s.1.1.length),()))))) ((bE m,(bE m).length,[],(bE m).length),()):=by
 have hml:(bE m).length=m.length:=by simp[bE]
 refine aY m.length (fun k t=>∃ seen,t=((bE m,(bE m).length,seen,(bE m).length),())∧(cI m.length seen).length+k≤m.length∧∀ i (h:i<m.length),i∈seen→¬ S m[i].1) ⟨[],rfl,by rw[K0];omega,by simp⟩ ?_
 rintro X k t hk ⟨seen,rfl,hlen,hJ⟩ hX
 dsimp only
 refine ⟨by simp,?_,?_⟩
 ·intro hm
  rw[hml] at hm
  refine hgood fun i hi=>hJ i hi ?_
  refine Classical.byContradiction fun hc=>?_
  have:i∈cI m.length seen:=rW.2 ⟨hi,hc⟩
  rw[hm] at this;cases this
 ·intro i hi
  rw[hml] at hi
  have hi1:=(rW.1 hi).1
  have hst:=EH hi
  refine ⟨by simp,AXI hi1 _ ?_⟩
  have go:¬ S m[i].1→X ((bE m,(bE m).length,seen++[i],(bE m).length),()):=fun hn=>hX _ (by omega) ⟨_,rfl,by omega,fun j hj hm=>by
   rcases List.mem_append.1 hm with h|h
   ·exact hJ j hj h
   ·simp at h;subst h;exact hn⟩
  refine DW (r:=.bool) (fun hno=>go fun h=>?_) fun j b hb=>?_
  ·have:=(hS.2 m[i].1).2 h
   rw[hno] at this;cases this
  ·have:=hS.1 _ _ hb
   subst this
   rw[eO]
   exact hbad ⟨i,hi1,(hS.2 _).1 hb⟩
theorem A1K {m:List (ByteArray×Int)} {es:List (ByteArray×Bool)} {S:ByteArray→Prop} {K:List (ByteArray×Bool)×RS×PUnit→Prop} (hS:Seen es S) (hgood:∀ es' rs,Seen es' (fun id=>S id∨∃ i,∃ h:i<m.length,m[i].1=id)→K (es',rs,())) :
  dN Sy.str false Sy.bool (List.map (cC Sy.str false Sy.bool) es) fun (y:List (ByteArray×Bool)) =>
  a7 (List (ByteArray×Bool)×RS×PUnit) (fun (X:List (ByteArray×Bool)×RS×PUnit→Prop) (s:List (ByteArray×Bool)×RS×PUnit)=>bV (decide (s.2.1.1.length≤s.2.1.2.1)&&decide (s.2.1.2.1≤s.2.1.2.2.2)) (wZ s.2.1.1.length s.2.1.2.2.1 (K s) fun (i:Nat) =>
   bV (decide (s.2.1.1.length=s.2.1.1.length)) (LD Sy.str false (Sy.int IntKind.i64) (qE s.2.1.1) (s.2.1.2.2.1++[i]) fun (k:ByteArray) (y:Int) =>
    nY (Option (Nat×D)) (findD TypeDesc.string (Q2 Sy.str k) (List.map (cC Sy.str false Sy.bool) s.1) 0) fun (y37:Option (Nat×D)) =>
     dN Sy.str false Sy.bool (eT (List.map (cC Sy.str false Sy.bool) s.1) y37 (Value.string k) (D.p (T.v (.bool true)))) fun (y38:List (ByteArray×Bool)) =>
      X (y38,(s.2.1.1,s.2.1.2.1,s.2.1.2.2.1++[i],s.2.1.1.length),())))) (y,(bE m,(bE m).length,[],(bE m).length),()):=by
 have hml:(bE m).length=m.length:=by simp[bE]
 refine mY (r:=.bool) rfl es _ ?_
 refine aY m.length (fun k t=>∃ seen es',t=(es',(bE m,(bE m).length,seen,(bE m).length),())∧(cI m.length seen).length+k≤m.length∧Seen es' (fun id=>S id∨∃ i,∃ h:i<m.length,i∈seen∧m[i].1=id)) ⟨[],es,rfl,by rw[K0];omega,hS.congr (by simp)⟩ ?_
 rintro X k t hk ⟨seen,es',rfl,hlen,hJ⟩ hX
 dsimp only
 refine ⟨by simp,?_,?_⟩
 ·intro hm
  rw[hml] at hm
  refine hgood _ _ (hJ.congr fun id=>⟨fun h=>h.imp_right fun ⟨i,hi,_,e⟩=>⟨i,hi,e⟩,fun h=>h.imp_right fun ⟨i,hi,e⟩=>⟨i,hi,?_,e⟩⟩)
  refine Classical.byContradiction fun hc=>?_
  have:i∈cI m.length seen:=rW.2 ⟨hi,hc⟩
  rw[hm] at this;cases this
 ·intro i hi
  rw[hml] at hi
  have hi1:=(rW.1 hi).1
  have hst:=EH hi
  refine ⟨by simp,AXI hi1 _ ?_⟩
  refine AYM (r:=.bool) rfl (es:=es') (k:=m[i].1) (v:=true) (hX _ (by omega) ⟨seen++[i],_,rfl,by omega,(hJ.ins _).congr fun id=>⟨?_,?_⟩⟩)
  ·rintro ((h|⟨j,hj,hm,e⟩)|h)
   ·exact .inl h
   ·exact .inr ⟨j,hj,by simp[hm],e⟩
   ·exact .inr ⟨i,hi1,by simp,h⟩
  ·rintro (h|⟨j,hj,hm,e⟩)
   ·exact .inl (.inl h)
   ·rcases List.mem_append.1 hm with hm|hm
    ·exact .inl (.inr ⟨j,hj,hm,e⟩)
    ·simp at hm;subst hm;exact .inr e
def ltN (a b:n7):Bool:=decide (a.1<b.1)||(decide (a.1=b.1)&&(eP a.2.1 b.2.1||(decide (a.2.1=b.2.1)&&eP a.2.2 b.2.2)))
def YT:List n7→Bool
 | a::b::l=>ltN a b&&YT (b::l)
 | _=>true
theorem UM {l:List n7} {k:Nat} (h:k+1<l.length):YT (l.drop k)=(ltN l[k] l[k+1]&&YT (l.drop (k+1))):=by
 rw[List.drop_eq_getElem_cons (show k<l.length by omega),List.drop_eq_getElem_cons h,YT]
theorem AE3 {l:List n7} {k:Nat} (h:l.length≤k+1):YT (l.drop k)=true:=by
 rcases Nat.lt_or_ge k l.length with h1|h1
 ·rw[List.drop_eq_getElem_cons h1,List.drop_eq_nil_of_le h];rfl
 ·rw[List.drop_eq_nil_of_le h1];rfl
theorem VB (k:ByteArray) (v:Int) (id:ByteArray):∀ es:List (ByteArray×Int),id∈(wL es k v).map (fun e=>e.1)↔id∈es.map (fun e=>e.1)∨id=k
 | []=>by simp[wL]
 | e::es=>by
  simp only[wL]
  split
  ·rename_i h
   simp only[List.map_cons,List.mem_cons]
   rw[←h]
   constructor
   ·rintro (h|h)
    ·exact .inl (.inl h)
    ·exact .inl (.inr h)
   ·rintro ((h|h)|h)
    ·exact .inl h
    ·exact .inr h
    ·exact .inl h
  ·simp only[List.map_cons,List.mem_cons,VB k v id es,or_assoc]
theorem VE (id:ByteArray):∀ (l:List ByteArray) (i:Nat) (es:List (ByteArray×Int)),id∈(IQ l i es).map (fun e=>e.1)↔id∈es.map (fun e=>e.1)∨id∈l
 | [],i,es=>by simp[IQ]
 | a::l,i,es=>by
  simp only[IQ]
  rw[VE id l]
  cases h:iR es a with
  | none=>simp only[VB,List.mem_cons,or_assoc]
  | some v =>
   simp only[List.mem_cons]
   have ha:a∈es.map (fun e=>e.1):=by
    rcases vD a es with ⟨h1,_⟩|⟨j,hj,h1,_⟩
    ·rw[h] at h1;cases h1
    ·exact List.mem_map.2 ⟨es[j],List.getElem_mem hj,h1⟩
   constructor
   ·rintro (h|h)
    ·exact .inl h
    ·exact .inr (.inr h)
   ·rintro (h|rfl|h)
    ·exact .inl h
    ·exact .inl ha
    ·exact .inr h
theorem j0 {l:List ByteArray} {id:ByteArray}:(∃ i,∃ h:i<(gW l).length,(gW l)[i].1=id)↔id∈l:=by
 have h:=VE id l 0 []
 simp only[List.map_nil,List.not_mem_nil,false_or] at h
 rw[←h,List.mem_map]
 constructor
 ·rintro ⟨i,hi,e⟩;exact ⟨_,List.getElem_mem hi,e⟩
 ·rintro ⟨e,he,h⟩
  obtain ⟨i,hi,rfl⟩:=List.mem_iff_getElem.1 he
  exact ⟨i,hi,h⟩
def BG (a0:aF) (m1:List (ByteArray×Int)) (m2:List (ByteArray×Int)) (m3:List (ByteArray×Int)) (m4:List (ByteArray×Int)):List T:=[SP a0 m1 m2 m3 m4]
noncomputable def AI4:Env:=Env.of [(61,.pure tV)]
def AWP:FuncId→Hint:=fun f=>match f == 24 with|true=>⟨fun r=>match r == 9 with|true=>.inv [.val 4 false .bool,.val 5 false (.int .i64)]|false=>match r == 17 with|true=>.J5 5|false=>match r == 20 with|true=>.alts [[.bP 30],[.bP 29],[.bP 28],[.bP 27],[.bP 26],[.bP 25],[.bP 24],[.bP 23],[.bP 22],[.bP 21],[.bP 20],[.bP 19],[.bP 18],[.bP 17],[.bP 16],[.bP 15],[.bP 14],[.bP 13],[.bP 12],[.bP 11],[.bP 10],[.bP 9],[.bP 8],[.bP 7],[.bP 6],[.bP 5],[.bP 4],[.bP 3],[.bP 2]]|false=>match r == 25 with|true=>.alts [[.map 2 .str false .bool,.bP 30],[.map 2 .str false .bool,.bP 29],[.map 2 .str false .bool,.bP 28],[.map 2 .str false .bool,.bP 27],[.map 2 .str false .bool,.bP 26],[.map 2 .str false .bool,.bP 25],[.map 2 .str false .bool,.bP 24],[.map 2 .str false .bool,.bP 23],[.map 2 .str false .bool,.bP 22],[.map 2 .str false .bool,.bP 21],[.map 2 .str false .bool,.bP 20],[.map 2 .str false .bool,.bP 19],[.map 2 .str false .bool,.bP 18],[.map 2 .str false .bool,.bP 17],[.map 2 .str false .bool,.bP 16],[.map 2 .str false .bool,.bP 15],[.map 2 .str false .bool,.bP 14],[.map 2 .str false .bool,.bP 13],[.map 2 .str false .bool,.bP 12],[.map 2 .str false .bool,.bP 11],[.map 2 .str false .bool,.bP 10],[.map 2 .str false .bool,.bP 9],[.map 2 .str false .bool,.bP 8],[.map 2 .str false .bool,.bP 7],[.map 2 .str false .bool,.bP 6],[.map 2 .str false .bool,.bP 5],[.map 2 .str false .bool,.bP 4],[.map 2 .str false .bool,.bP 3],[.map 2 .str false .bool,.bP 2]]|false=>.none,fun i j=>match i == 5&&j == 5 with|true=>some [.val 4 false .bool]|false=>match i == 6&&j == 6 with|true=>some [.val 4 false .bool]|false=>match i == 7&&j == 7 with|true=>some [.val 4 false .bool]|false=>none,fun r=>match r == 21 with|true=>some (.str,false,(.int .i64))|false=>match r == 26 with|true=>some (.str,false,(.int .i64))|false=>none⟩|false=>aT
theorem AVT:aE Tryz.prog AI4:=aE.cons (x:=.pure tV) A4B (aE.nil _)
def AKN (a0:aF) (m1:List (ByteArray×Int)) (m2:List (ByteArray×Int)) (m3:List (ByteArray×Int)) (m4:List (ByteArray×Int)) (R:T→Prop):Prop :=
 aB (decide (64<(↑(List.map bH.enc a0.2.1).length:Int)))
 (R (T.v (.int .i64 4)))
 (aB (decide (256<(↑(List.map aX.enc a0.2.2.1).length:Int)))
 (R (T.v (.int .i64 4)))
 (aB (decide (256<(↑(List.map bW.enc a0.2.2.2.1).length:Int)))
 (R (T.v (.int .i64 4)))
 (aB (decide (64<(↑(List.map aR.enc a0.2.2.2.2.1).length:Int)))
 (R (T.v (.int .i64 4)))
 (aB (decide (256<(↑(List.map b6.enc a0.2.2.2.2.2).length:Int)))
 (R (T.v (.int .i64 4)))
 (aG [(false,Sy.bool)]
 (tV
 [T.v (.int .i64 (↑(List.map bH.enc a0.2.1).length:Int)),
 T.fn 62 []
 [T.ref
 [T.ref
 [T.v (.string a0.1),T.sl false (List.map bH.enc a0.2.1),
 T.sl false (List.map aX.enc a0.2.2.1),
 T.sl false (List.map bW.enc a0.2.2.2.1),
 T.sl false (List.map aR.enc a0.2.2.2.2.1),
 T.sl false (List.map b6.enc a0.2.2.2.2.2)]]]])
 fun (y0:Bool) =>
 rU (Bool×PUnit)
 (fun (X1:Bool×PUnit→Prop) =>
 aB y0
 (aG [(false,Sy.bool)]
 (tV
 [T.v
 (Value.int IntKind.i64 (↑(List.map aX.enc a0.2.2.1).length:Int)),
 T.fn 63 []
 [T.ref
 [T.ref
 [T.v (.string a0.1),
 T.sl false (List.map bH.enc a0.2.1),
 T.sl false (List.map aX.enc a0.2.2.1),
 T.sl false (List.map bW.enc a0.2.2.2.1),
 T.sl false (List.map aR.enc a0.2.2.2.2.1),
 T.sl false (List.map b6.enc a0.2.2.2.2.2)]]]])
 fun (y2:Bool)=>X1 (y2,()))
 (X1 (false,())))
 fun (s3:Bool×PUnit) =>
 rU (Bool×PUnit)
 (fun (X4:Bool×PUnit→Prop) =>
 aB s3.1
 (aG [(false,Sy.bool)]
 (tV
 [T.v
 (Value.int IntKind.i64 (↑(List.map bW.enc a0.2.2.2.1).length:Int)),
 T.fn 64 []
 [T.ref
 [T.ref
 [T.v (.string a0.1),
 T.sl false (List.map bH.enc a0.2.1),
 T.sl false (List.map aX.enc a0.2.2.1),
 T.sl false (List.map bW.enc a0.2.2.2.1),
 T.sl false (List.map aR.enc a0.2.2.2.2.1),
 T.sl false (List.map b6.enc a0.2.2.2.2.2)]]]])
 fun (y5:Bool)=>X4 (y5,()))
 (X4 (false,())))
 fun (s6:Bool×PUnit) =>
 rU (Bool×PUnit)
 (fun (X7:Bool×PUnit→Prop) =>
 aB s6.1
 (aG [(false,Sy.bool)]
 (tV
 [T.v
 (Value.int IntKind.i64
 (↑(List.map aR.enc a0.2.2.2.2.1).length:Int)),
 T.fn 65 []
 [T.ref
 [T.ref
 [T.v (.string a0.1),
 T.sl false (List.map bH.enc a0.2.1),
 T.sl false (List.map aX.enc a0.2.2.1),
 T.sl false (List.map bW.enc a0.2.2.2.1),
 T.sl false (List.map aR.enc a0.2.2.2.2.1),
 T.sl false (List.map b6.enc a0.2.2.2.2.2)]]]])
 fun (y8:Bool)=>X7 (y8,()))
 (X7 (false,())))
 fun (s9:Bool×PUnit) =>
 a7 (Bool×Int×PUnit)
 (fun (X10:Bool×Int×PUnit→Prop) (s11:Bool×Int×PUnit) =>
 aB
 (decide (s11.2.1<(↑(List.map b6.enc a0.2.2.2.2.2).length:Int)))
 (aO b6 (List.map b6.enc a0.2.2.2.2.2)
 (IntKind.i64.wrap (s11.2.1-1)) fun (y12:n7) =>
 aO b6 (List.map b6.enc a0.2.2.2.2.2) s11.2.1
 fun (y13:n7) =>
 aB s11.1
 (aB (decide (y12.1<y13.1))
 (X10 (true,IntKind.i64.wrap (s11.2.1+1),()))
 (aB (decide (y12.1=y13.1))
 (aB (eP y12.2.1 y13.2.1)
 (X10 (true,IntKind.i64.wrap (s11.2.1+1),()))
 (aB (decide (y12.2.1=y13.2.1))
 (X10
 (eP y12.2.2 y13.2.2,IntKind.i64.wrap (s11.2.1+1),
 ()))
 (X10 (false,IntKind.i64.wrap (s11.2.1+1),()))))
 (X10 (false,IntKind.i64.wrap (s11.2.1+1),()))))
 (X10 (false,IntKind.i64.wrap (s11.2.1+1),())))
 (aB (!s11.1) (R (T.v (.int .i64 11)))
 (a7 ((List (Value×T)×Nat×List Nat×Nat)×PUnit)
 (fun (X14:(List (Value×T)×Nat×List Nat×Nat)×PUnit→Prop)
 (s15:(List (Value×T)×Nat×List Nat×Nat)×PUnit) =>
 bV
 (decide (s15.1.1.length≤s15.1.2.1) &&
 decide (s15.1.2.1≤s15.1.2.2.2))
 (wZ s15.1.1.length s15.1.2.2.1
 (dN Sy.str false Sy.bool []
 fun (y16:List (ByteArray×Bool)) =>
 a7
 (List (ByteArray×Bool) ×
 (List (Value×T)×Nat×List Nat×Nat)×PUnit)
 (fun
 (X17 :
 List (ByteArray×Bool) ×
 (List (Value×T)×Nat×List Nat×Nat)×PUnit →
 Prop)
 (s18 :
 List (ByteArray×Bool) ×
 (List (Value×T)×Nat×List Nat×Nat)×PUnit) =>
 bV
 (decide (s18.2.1.1.length≤s18.2.1.2.1) &&
 decide (s18.2.1.2.1≤s18.2.1.2.2.2))
 (wZ s18.2.1.1.length s18.2.1.2.2.1
 (a7 ((List (Value×T)×Nat×List Nat×Nat)×PUnit)
 (fun
 (X19 :
 (List (Value×T)×Nat×List Nat×Nat)×PUnit→Prop)
 (s20:(List (Value×T)×Nat×List Nat×Nat)×PUnit) =>
 bV
 (decide (s20.1.1.length≤s20.1.2.1) &&
 decide (s20.1.2.1≤s20.1.2.2.2))
 (wZ s20.1.1.length s20.1.2.2.1
 (dN Sy.str false Sy.bool
 (List.map (cC Sy.str false Sy.bool) s18.1)
 fun (y21:List (ByteArray×Bool)) =>
 a7
 (List (ByteArray×Bool) ×
 (List (Value×T)×Nat×List Nat×Nat)×PUnit)
 (fun
 (X22 :
 List (ByteArray×Bool) ×
 (List (Value×T)×Nat×List Nat×Nat) ×
 PUnit →
 Prop)
 (s23 :
 List (ByteArray×Bool) ×
 (List (Value×T)×Nat×List Nat×Nat) ×
 PUnit) =>
 bV
 (decide (s23.2.1.1.length≤s23.2.1.2.1) &&
 decide (s23.2.1.2.1≤s23.2.1.2.2.2))
 (wZ s23.2.1.1.length s23.2.1.2.2.1
 (a7
 ((List (Value×T)×Nat×List Nat×Nat) ×
 PUnit)
 (fun
 (X24 :
 (List (Value×T) ×
 Nat×List Nat×Nat) ×
 PUnit →
 Prop)
 (s25 :
 (List (Value×T) ×
 Nat×List Nat×Nat) ×
 PUnit) =>
 bV
 (decide (s25.1.1.length≤s25.1.2.1) &&
 decide (s25.1.2.1≤s25.1.2.2.2))
 (wZ s25.1.1.length s25.1.2.2.1
 (dN Sy.str false Sy.bool
 (List.map
 (cC Sy.str false Sy.bool)
 s23.1)
 fun (y26:List (ByteArray×Bool)) =>
 a7
 (List (ByteArray×Bool) ×
 (List (Value×T) ×
 Nat×List Nat×Nat) ×
 PUnit)
 (fun
 (X27 :
 List (ByteArray×Bool) ×
 (List (Value×T) ×
 Nat×List Nat×Nat) ×
 PUnit →
 Prop)
 (s28 :
 List (ByteArray×Bool) ×
 (List (Value×T) ×
 Nat×List Nat×Nat) ×
 PUnit) =>
 bV
 (decide
 (s28.2.1.1.length ≤
 s28.2.1.2.1) &&
 decide
 (s28.2.1.2.1 ≤
 s28.2.1.2.2.2))
 (wZ s28.2.1.1.length
 s28.2.1.2.2.1
 (a7
 ((List (Value×T) ×
 Nat×List Nat×Nat) ×
 PUnit)
 (fun
 (X29 :
 (List (Value×T) ×
 Nat×List Nat×Nat) ×
 PUnit →
 Prop)
 (s30 :
 (List (Value×T) ×
 Nat×List Nat×Nat) ×
 PUnit) =>
 bV
 (decide
 (s30.1.1.length ≤
 s30.1.2.1) &&
 decide
 (s30.1.2.1 ≤
 s30.1.2.2.2))
 (wZ s30.1.1.length
 s30.1.2.2.1
 (dN Sy.str false
 Sy.bool
 (List.map
 (cC Sy.str
 false Sy.bool)
 s28.1)
 fun
 (y31 :
 List
 (ByteArray×Bool)) =>
 a7
 (List (ByteArray×Bool) ×
 (List
 (Value ×
 T) ×
 Nat ×
 List Nat×Nat) ×
 PUnit)
 (fun
 (X32 :
 List
 (ByteArray ×
 Bool) ×
 (List
 (Value ×
 T) ×
 Nat ×
 List Nat ×
 Nat) ×
 PUnit →
 Prop)
 (s33 :
 List
 (ByteArray ×
 Bool) ×
 (List
 (Value ×
 T) ×
 Nat ×
 List Nat ×
 Nat) ×
 PUnit) =>
 bV
 (decide
 (s33.2.1.1.length ≤
 s33.2.1.2.1) &&
 decide
 (s33.2.1.2.1 ≤
 s33.2.1.2.2.2))
 (wZ
 s33.2.1.1.length
 s33.2.1.2.2.1
 (R
 (T.v
 (Value.int
 IntKind.i64
 0)))
 fun (i34:Nat) =>
 bV
 (decide
 (s33.2.1.1.length =
 s33.2.1.1.length))
 (LD
 Sy.str false
 (Sy.int
 IntKind.i64)
 (qE
 s33.2.1.1)
 (s33.2.1.2.2.1 ++
 [i34])
 fun
 (k35 :
 ByteArray)
 (y36:Int) =>
 nY
 (Option
 (Nat ×
 D))
 (findD
 TypeDesc.string
 (Q2
 Sy.str
 k35)
 (List.map
 (cC
 Sy.str
 false
 Sy.bool)
 s33.1)
 0)
 fun
 (y37 :
 Option
 (Nat ×
 D)) =>
 dN
 Sy.str
 false
 Sy.bool
 (eT
 (List.map
 (cC
 Sy.str
 false
 Sy.bool)
 s33.1)
 y37
 (Value.string
 k35)
 (D.p
 (T.v
 (Value.bool
 true))))
 fun
 (y38 :
 List
 (ByteArray ×
 Bool)) =>
 X32
 (y38,
 (s33.2.1.1,
 s33.2.1.2.1,
 s33.2.1.2.2.1 ++
 [i34],
 s33.2.1.1.length),
 ()))))
 (y31,
 (bE m4,
 (bE m4).length,
 [],
 (bE m4).length),
 ()))
 fun (i39:Nat) =>
 bV
 (decide
 (s30.1.1.length =
 s30.1.1.length))
 (LD Sy.str false
 (Sy.int
 IntKind.i64)
 (qE s30.1.1)
 (s30.1.2.2.1 ++
 [i39])
 fun (k40:ByteArray)
 (y41:Int) =>
 gG
 TypeDesc.string
 (Value.string k40)
 (List.map
 (cC Sy.str
 false Sy.bool)
 s28.1)
 false Sy.bool
 (X29
 ((s30.1.1,
 s30.1.2.1,
 s30.1.2.2.1 ++
 [i39],
 s30.1.1.length),
 ()))
 fun (i42:Nat)
 (y43:Bool) =>
 aB y43
 (R
 (T.v
 (Value.int
 IntKind.i64
 7)))
 (X29
 ((s30.1.1,
 s30.1.2.1,
 s30.1.2.2.1 ++
 [i39],
 s30.1.1.length),
 ())))))
 ((bE m4,
 (bE m4).length,[],
 (bE m4).length),
 ()))
 fun (i44:Nat) =>
 bV
 (decide
 (s28.2.1.1.length =
 s28.2.1.1.length))
 (LD Sy.str false
 (Sy.int IntKind.i64)
 (qE s28.2.1.1)
 (s28.2.1.2.2.1++[i44])
 fun (k45:ByteArray) (y46:Int) =>
 nY (Option (Nat×D))
 (findD TypeDesc.string
 (Q2 Sy.str k45)
 (List.map
 (cC Sy.str false
 Sy.bool)
 s28.1)
 0)
 fun
 (y47 :
 Option (Nat×D)) =>
 dN Sy.str false
 Sy.bool
 (eT
 (List.map
 (cC Sy.str
 false Sy.bool)
 s28.1)
 y47 (Value.string k45)
 (D.p
 (T.v
 (Value.bool true))))
 fun
 (y48 :
 List (ByteArray×Bool)) =>
 X27
 (y48,
 (s28.2.1.1,
 s28.2.1.2.1,
 s28.2.1.2.2.1 ++
 [i44],
 s28.2.1.1.length),
 ()))))
 (y26,
 (bE m3,(bE m3).length,[],
 (bE m3).length),
 ()))
 fun (i49:Nat) =>
 bV
 (decide
 (s25.1.1.length=s25.1.1.length))
 (LD Sy.str false
 (Sy.int IntKind.i64)
 (qE s25.1.1)
 (s25.1.2.2.1++[i49])
 fun (k50:ByteArray) (y51:Int) =>
 gG TypeDesc.string
 (Value.string k50)
 (List.map
 (cC Sy.str false
 Sy.bool)
 s23.1)
 false Sy.bool
 (X24
 ((s25.1.1,s25.1.2.1,
 s25.1.2.2.1++[i49],
 s25.1.1.length),
 ()))
 fun (i52:Nat) (y53:Bool) =>
 aB y53
 (R
 (T.v
 (Value.int IntKind.i64 7)))
 (X24
 ((s25.1.1,s25.1.2.1,
 s25.1.2.2.1++[i49],
 s25.1.1.length),
 ())))))
 ((bE m3,(bE m3).length,[],
 (bE m3).length),
 ()))
 fun (i54:Nat) =>
 bV
 (decide
 (s23.2.1.1.length=s23.2.1.1.length))
 (LD Sy.str false
 (Sy.int IntKind.i64)
 (qE s23.2.1.1)
 (s23.2.1.2.2.1++[i54])
 fun (k55:ByteArray) (y56:Int) =>
 nY (Option (Nat×D))
 (findD TypeDesc.string
 (Q2 Sy.str k55)
 (List.map
 (cC Sy.str false Sy.bool)
 s23.1)
 0)
 fun (y57:Option (Nat×D)) =>
 dN Sy.str false Sy.bool
 (eT
 (List.map
 (cC Sy.str false Sy.bool)
 s23.1)
 y57 (Value.string k55)
 (D.p (T.v (.bool true))))
 fun (y58:List (ByteArray×Bool)) =>
 X22
 (y58,
 (s23.2.1.1,s23.2.1.2.1,
 s23.2.1.2.2.1++[i54],
 s23.2.1.1.length),
 ()))))
 (y21,
 (bE m2,(bE m2).length,[],
 (bE m2).length),
 ()))
 fun (i59:Nat) =>
 bV (decide (s20.1.1.length=s20.1.1.length))
 (LD Sy.str false (Sy.int IntKind.i64)
 (qE s20.1.1) (s20.1.2.2.1++[i59])
 fun (k60:ByteArray) (y61:Int) =>
 gG TypeDesc.string (Value.string k60)
 (List.map (cC Sy.str false Sy.bool)
 s18.1)
 false Sy.bool
 (X19
 ((s20.1.1,s20.1.2.1,
 s20.1.2.2.1++[i59],s20.1.1.length),
 ()))
 fun (i62:Nat) (y63:Bool) =>
 aB y63 (R (T.v (.int .i64 7)))
 (X19
 ((s20.1.1,s20.1.2.1,
 s20.1.2.2.1++[i59],s20.1.1.length),
 ())))))
 ((bE m2,(bE m2).length,[],(bE m2).length),()))
 fun (i64:Nat) =>
 bV (decide (s18.2.1.1.length=s18.2.1.1.length))
 (LD Sy.str false (Sy.int IntKind.i64)
 (qE s18.2.1.1) (s18.2.1.2.2.1++[i64])
 fun (k65:ByteArray) (y66:Int) =>
 nY (Option (Nat×D))
 (findD TypeDesc.string (Q2 Sy.str k65)
 (List.map (cC Sy.str false Sy.bool) s18.1) 0)
 fun (y67:Option (Nat×D)) =>
 dN Sy.str false Sy.bool
 (eT
 (List.map (cC Sy.str false Sy.bool) s18.1)
 y67 (Value.string k65)
 (D.p (T.v (.bool true))))
 fun (y68:List (ByteArray×Bool)) =>
 X17
 (y68,
 (s18.2.1.1,s18.2.1.2.1,
 s18.2.1.2.2.1++[i64],s18.2.1.1.length),
 ()))))
 (y16,(bE m1,(bE m1).length,[],(bE m1).length),()))
 fun (i69:Nat) =>
 bV (decide (s15.1.1.length=s15.1.1.length))
 (LD Sy.str false (Sy.int IntKind.i64) (qE s15.1.1)
 (s15.1.2.2.1++[i69]) fun (k70:ByteArray) (y71:Int) =>
 gG TypeDesc.string (Value.string k70) [] false Sy.bool
 (X14
 ((s15.1.1,s15.1.2.1,s15.1.2.2.1++[i69],
 s15.1.1.length),
 ()))
 fun (i72:Nat) (y73:Bool) =>
 aB y73 (R (T.v (.int .i64 7)))
 (X14
 ((s15.1.1,s15.1.2.1,s15.1.2.2.1++[i69],
 s15.1.1.length),
 ())))))
 ((bE m1,(bE m1).length,[],(bE m1).length),()))))
 (s9.1,1,()))))))
theorem ARC ( a0 m1 m2 m3 m4 R):bA aW Tryz.prog AI4 AWP 8 24 (BG a0 m1 m2 m3 m4) R=AKN a0 m1 m2 m3 m4 R:=by kernel_rfl
abbrev MP:=List (ByteArray×Int)
theorem DR {a b:MP} (h:bE a=bE b):a=b:=map_inj (fun x y h=>by
 simp only[Prod.mk.injEq,Value.string.injEq,T.v.injEq,Value.int.injEq,true_and] at h
 exact Prod.ext h.1 h.2) h
theorem qC {x y:aF×MP×MP×MP×MP} (h:SP x.1 x.2.1 x.2.2.1 x.2.2.2.1 x.2.2.2.2=SP y.1 y.2.1 y.2.2.1 y.2.2.2.1 y.2.2.2.2):x=y:=by
 simp only[SP,T.ref.injEq,List.cons.injEq,T.mp.injEq,and_true] at h
 obtain ⟨h0,h1,h2,h3,h4⟩:=h
 exact Prod.ext (Sy.dO aM _ _ h0) (Prod.ext (DR h1) (Prod.ext (DR h2) (Prod.ext (DR h3) (DR h4))))
theorem AI0 (x y:aF×MP×MP×MP×MP) (h:BG x.1 x.2.1 x.2.2.1 x.2.2.2.1 x.2.2.2.2=BG y.1 y.2.1 y.2.2.1 y.2.2.2.1 y.2.2.2.2):x=y:=qC (List.cons.inj h).1
def eK (d:aF):Bool:=decide (64<d.2.1.length)||decide (256<d.2.2.1.length)||decide (256<d.2.2.2.1.length)||decide (64<d.2.2.2.2.1.length)||decide (256<d.2.2.2.2.2.length)
def j5 (d:aF):Bool:=lU (ids d.2.1)&&lU (ids d.2.2.1)&&lU (ids d.2.2.2.1)&&lU (ids d.2.2.2.2.1)&&YT d.2.2.2.2.2
def AXG (l1 l2 l3 l4:List ByteArray):Bool:=(l2.any (mG l1))||(l3.any fun x=>mG l1 x||mG l2 x)||(l4.any fun x=>mG l1 x||mG l2 x||mG l3 x)
def H0 (d:aF):Bool:=AXG (ids d.2.1) (ids d.2.2.1) (ids d.2.2.2.1) (ids d.2.2.2.2.1)
def fA (d:aF):Int:=if eK d=true then 4 else if j5 d=false then 11 else if H0 d=true then 7 else 0
def A6U (x:aF×MP×MP×MP×MP):Bool:=decide (x.2.1=gW (ids x.1.2.1))&&decide (x.2.2.1=gW (ids x.1.2.2.1))&&decide (x.2.2.2.1=gW (ids x.1.2.2.2.1))&&decide (x.2.2.2.2=gW (ids x.1.2.2.2.2.1)) &&
 (decide (x.1.2.1.length≤140737488355328)&&decide (x.1.2.2.1.length≤140737488355328)&&decide (x.1.2.2.2.1.length≤140737488355328)&&decide (x.1.2.2.2.2.1.length≤140737488355328)&&decide (x.1.2.2.2.2.2.length≤140737488355328))
structure lT (d:aF):Prop where
 n:d.2.1.length≤140737488355328
 p:d.2.2.1.length≤140737488355328
 s:d.2.2.2.1.length≤140737488355328
 k:d.2.2.2.2.1.length≤140737488355328
 r:d.2.2.2.2.2.length≤140737488355328
theorem RG {x:aF×MP×MP×MP×MP}:A6U x=true↔x=(x.1,gW (ids x.1.2.1),gW (ids x.1.2.2.1),gW (ids x.1.2.2.2.1),gW (ids x.1.2.2.2.2.1))∧lT x.1:=by
 obtain ⟨d,a,b,c,e⟩:=x
 simp only[A6U,Bool.and_eq_true,decide_eq_true_eq,Prod.mk.injEq,true_and]
 constructor
 ·rintro ⟨⟨⟨⟨rfl,rfl⟩,rfl⟩,rfl⟩,⟨⟨⟨h1,h2⟩,h3⟩,h4⟩,h5⟩
  exact ⟨⟨rfl,rfl,rfl,rfl⟩,h1,h2,h3,h4,h5⟩
 ·rintro ⟨⟨rfl,rfl,rfl,rfl⟩,h1,h2,h3,h4,h5⟩
  exact ⟨⟨⟨⟨rfl,rfl⟩,rfl⟩,rfl⟩,⟨⟨⟨h1,h2⟩,h3⟩,h4⟩,h5⟩
def wH (x:aF×MP×MP×MP×MP) (t:T):Option T:=match A6U x with
 | true=>some t
 | false=>none
theorem nJ {x:aF×MP×MP×MP×MP} {t r:T} (h:wH x t=some r):x=(x.1,gW (ids x.1.2.1),gW (ids x.1.2.2.1),gW (ids x.1.2.2.2.1),gW (ids x.1.2.2.2.2.1))∧lT x.1∧r=t:=by
 unfold wH at h;split at h
 ·rename_i hc
  cases h
  exact ⟨(RG.1 hc).1,(RG.1 hc).2,rfl⟩
 ·cases h
theorem nK {d:aF} (h:lT d) (t:T):wH (d,gW (ids d.2.1),gW (ids d.2.2.1),gW (ids d.2.2.2.1),gW (ids d.2.2.2.2.1)) t=some t:=by
 unfold wH;rw[RG.2 ⟨rfl,h⟩]
def AA4 (x:aF×MP×MP×MP×MP):Option T:=wH x (T.v (Value.int .i64 (fA x.1)))
noncomputable def II:List T→Option (T):=gA (fun (x:aF×(List (ByteArray×Int))×(List (ByteArray×Int))×(List (ByteArray×Int))×List (ByteArray×Int))=>BG x.1 x.2.1 x.2.2.1 x.2.2.2.1 x.2.2.2.2) AA4
theorem AS4 (a0:aF) (m1:List (ByteArray×Int)) (m2:List (ByteArray×Int)) (m3:List (ByteArray×Int)) (m4:List (ByteArray×Int)):II (BG a0 m1 m2 m3 m4)=AA4 (a0,m1,m2,m3,m4):=lA (A:=(fun (x:aF×(List (ByteArray×Int))×(List (ByteArray×Int))×(List (ByteArray×Int))×List (ByteArray×Int))=>BG x.1 x.2.1 x.2.2.1 x.2.2.2.1 x.2.2.2.2)) AI0 (a0,m1,m2,m3,m4)
theorem A2Z (h:∀ (a0:aF) (m1:List (ByteArray×Int)) (m2:List (ByteArray×Int)) (m3:List (ByteArray×Int)) (m4:List (ByteArray×Int)) (r:T),AA4 (a0,m1,m2,m3,m4)=some r→(∀ t∈BG a0 m1 m2 m3 m4,Bd t)→AKN a0 m1 m2 m3 m4 (fun y=>y=r)):aK Tryz.prog 24 II :=
 fK (E:=AI4) (Hs:=AWP) AVT aU aV (aL rfl) 8 ⟨_,_,Tryz.func24,rfl⟩ fun x r h1 h2=>by
  rw[ARC]
  exact h x.1 x.2.1 x.2.2.1 x.2.2.2.1 x.2.2.2.2 r h1 h2
theorem LZ {A:List T} {b:Bool} (h:tV A=some (T.v (.bool b))) (K:Bool→Prop) (hk:K b):aG [(false,Sy.bool)] (tV A) K:=aD (s:=[(false,Sy.bool)]) (y:=b) h hk
theorem A15:aK Tryz.prog 24 II:=A2Z fun d m1 m2 m3 m4 r h hb=>by
 obtain ⟨hx,hs,rfl⟩:=nJ h
 simp only[Prod.mk.injEq,true_and] at hx
 obtain ⟨rfl,rfl,rfl,rfl⟩:=hx
 clear h
 have is:∀ {n:Int},fA d=n→T.v (.int .i64 n)=T.v (.int .i64 (fA d)):=fun h=>by rw[h]
 have long:eK d=true→fA d=4:=fun h=>by unfold fA;rw[if_pos h]
 unfold AKN
 refine bJ (fun h=>is (long (by rw[List.length_map] at h;simp only[eK,Bool.or_eq_true,decide_eq_true_eq];omega))) fun l1=>?_
 refine bJ (fun h=>is (long (by rw[List.length_map] at h;simp only[eK,Bool.or_eq_true,decide_eq_true_eq];omega))) fun l2=>?_
 refine bJ (fun h=>is (long (by rw[List.length_map] at h;simp only[eK,Bool.or_eq_true,decide_eq_true_eq];omega))) fun l3=>?_
 refine bJ (fun h=>is (long (by rw[List.length_map] at h;simp only[eK,Bool.or_eq_true,decide_eq_true_eq];omega))) fun l4=>?_
 refine bJ (fun h=>is (long (by rw[List.length_map] at h;simp only[eK,Bool.or_eq_true,decide_eq_true_eq];omega))) fun l5=>?_
 rw[List.length_map] at l1 l2 l3 l4 l5
 have notLong:eK d=false:=by simp only[eK,Bool.or_eq_false_iff,decide_eq_false_iff_not];omega
 refine LZ (by rw[List.length_map];exact A5T hs.n) _ ?_
 have step:∀ {b c:Bool} {A:List T} {Z:Bool×PUnit→Prop},tV A=some (T.v (.bool c))→Z (b&&c,())→rU (Bool×PUnit) (fun (X:Bool×PUnit→Prop)=>aB b (aG [(false,Sy.bool)] (tV A) fun (y2:Bool)=>X (y2,())) (X (false,()))) Z:=fun {b c A Z} hA hZ=>by
  rw[yZ]
  cases b with
  | true=>rw[eO];exact LZ hA _ hZ
  | false=>rw[fS];exact hZ
 refine step (by rw[List.length_map];exact A5U hs.p) ?_
 refine step (by rw[List.length_map];exact A5V hs.s) ?_
 refine step (by rw[List.length_map];exact A5W hs.k) ?_
 refine aY d.2.2.2.2.2.length (fun k s=>∃ b,s=(b,((k+1:Nat):Int),())∧(b&&YT (d.2.2.2.2.2.drop k))=j5 d) ⟨_,rfl,by rw[List.drop_zero];rfl⟩ ?_
 rintro X k s hk ⟨b,rfl,he⟩ hX
 dsimp only
 have hr:=hs.r
 have hw:IntKind.i64.wrap (((k+1:Nat):Int)+1)=((k+1+1:Nat):Int):=aQ _ (by omega) (by omega)
 have hw1:IntKind.i64.wrap (((k+1:Nat):Int)-1)=((k:Nat):Int):=by rw[aQ _ (by omega) (by omega)];omega
 refine bJ (fun hlt=>?_) fun hge=>?_
 ·have hlt:k+1<d.2.2.2.2.2.length:=by rw[List.length_map] at hlt;omega
  rw[hw1,aS (r:=b6) (show k<d.2.2.2.2.2.length by omega),aS (r:=b6) hlt,hw]
  rw[UM hlt] at he
  have go:∀ c,(b&&ltN d.2.2.2.2.2[k] d.2.2.2.2.2[k+1])=c→X (c,((k+1+1:Nat):Int),()):=fun c hc=>hX _ (by omega) ⟨c,rfl,by rw[←hc,Bool.and_assoc];exact he⟩
  generalize d.2.2.2.2.2[k]=u at go
  generalize d.2.2.2.2.2[k+1]=v at go
  cases b with
  | false=>rw[fS];exact go _ rfl
  | true =>
   rw[eO]
   simp only[Bool.true_and,ltN] at go
   refine bJ (fun h=>go _ (by simp[h])) fun h1=>?_
   refine bJ (fun h2=>?_) fun h2=>go _ (by simp[h1,h2])
   refine tA (fun h3=>go _ (by simp[h2,h3])) fun h3=>?_
   refine bJ (fun h4=>go _ (by rw[decide_eq_false h1,decide_eq_true h2,h3,decide_eq_true h4];rfl)) fun h4=>go _ (by rw[decide_eq_false h1,decide_eq_true h2,h3,decide_eq_false h4];rfl)
 ·rw[List.length_map] at hge
  rw[AE3 (by omega),Bool.and_true] at he
  refine dK (fun h=>is (by unfold fA;rw[notLong,if_neg (by simp),←he,h];rfl)) fun h=>?_
  have dup:H0 d=true→T.v (.int .i64 7)=T.v (.int .i64 (fA d)):=fun h7=>is (by unfold fA;rw[notLong,if_neg (by simp),←he,h,if_neg (by simp),if_pos h7])
  have dup':(∃ i,∃ h:i<(gW (ids d.2.2.1)).length,(gW (ids d.2.2.1))[i].1∈ids d.2.1)∨(∃ i,∃ h:i<(gW (ids d.2.2.2.1)).length,(gW (ids d.2.2.2.1))[i].1∈ids d.2.1∨(gW (ids d.2.2.2.1))[i].1∈ids d.2.2.1)∨(∃ i,∃ h:i<(gW (ids d.2.2.2.2.1)).length,((gW (ids d.2.2.2.2.1))[i].1∈ids d.2.1∨(gW (ids d.2.2.2.2.1))[i].1∈ids d.2.2.1)∨(gW (ids d.2.2.2.2.1))[i].1∈ids d.2.2.2.1)→H0 d=true:=by
   intro h
   simp only[H0,AXG,Bool.or_eq_true,List.any_eq_true,j1]
   rcases h with ⟨i,hi,h⟩|⟨i,hi,h⟩|⟨i,hi,h⟩
   ·exact .inl (.inl ⟨_,j0.1 ⟨i,hi,rfl⟩,h⟩)
   ·exact .inl (.inr ⟨_,j0.1 ⟨i,hi,rfl⟩,h⟩)
   ·exact .inr ⟨_,j0.1 ⟨i,hi,rfl⟩,h⟩
  have m1:=fun id=>(@j0 (ids d.2.1) id)
  refine A1R (m:=gW (ids d.2.1)) (es:=[]) (R7:=T.v (.int .i64 7)=T.v (.int .i64 (fA d))) Seen.nil (fun h=>by obtain ⟨_,_,h⟩:=h;exact h.elim) fun _=>?_
  refine A1K (m:=gW (ids d.2.1)) (es:=[]) Seen.nil fun e1 rs1 s1=>?_
  have s1:=s1.congr (S':=fun id=>id∈ids d.2.1) fun id=>by rw[j0];simp
  refine A1R (m:=gW (ids d.2.2.1)) s1 (fun h=>dup (dup' (.inl h))) fun n1=>?_
  refine A1K (m:=gW (ids d.2.2.1)) s1 fun e2 rs2 s2=>?_
  have s2:=s2.congr (S':=fun id=>id∈ids d.2.1∨id∈ids d.2.2.1) fun id=>by rw[j0]
  refine A1R (m:=gW (ids d.2.2.2.1)) s2 (fun h=>dup (dup' (.inr (.inl h)))) fun n2=>?_
  refine A1K (m:=gW (ids d.2.2.2.1)) s2 fun e3 rs3 s3=>?_
  have s3:=s3.congr (S':=fun id=>(id∈ids d.2.1∨id∈ids d.2.2.1)∨id∈ids d.2.2.2.1) fun id=>by rw[j0]
  refine A1R (m:=gW (ids d.2.2.2.2.1)) s3 (fun h=>dup (dup' (.inr (.inr h)))) fun n3=>?_
  refine A1K (m:=gW (ids d.2.2.2.2.1)) s3 fun e4 rs4 s4=>is ?_
  have nd:H0 d=false:=by
   rw[Bool.eq_false_iff]
   intro h
   simp only[H0,AXG,Bool.or_eq_true,List.any_eq_true,j1] at h
   rcases h with (⟨x,hx,h⟩|⟨x,hx,h⟩)|⟨x,hx,h⟩
   ·obtain ⟨i,hi,rfl⟩:=j0.2 hx;exact n1 i hi h
   ·obtain ⟨i,hi,rfl⟩:=j0.2 hx;exact n2 i hi h
   ·obtain ⟨i,hi,rfl⟩:=j0.2 hx;exact n3 i hi h
  unfold fA;rw[notLong,if_neg (by simp),←he,h,if_neg (by simp),nd,if_neg (by simp)]
end Go.Pv
namespace Go.Pv
open Go Go.Proofs
def A5X:FuncId→Bool:=fun f=>[17,38,37,23,67].contains f
def A2H:Env:=Env.of [(98,.pure IF),(1000000000+23,.mark),(3000000000+17,.mark)]
def A72:List T→Option T:=fun args=>match args with | []=>some (.v (.bool true))|_=>none
def lX:List T→Option T:=A72
theorem ALQ:aK Tryz.prog 8 lX :=
 ASQ (by kernel_rfl) (by kernel_rfl) 400 A5X (B:=A2H) (aE.cons (x:=.pure IF) QJ (aE.cons (x:=.mark) trivial (aE.cons (x:=.mark) trivial (aE.nil _)))) 40 (by kernel_rfl)
end Go.Pv
namespace Go.Pv
open Go Go.Proofs
def A73:List T→Option T:=fun _=>none
theorem aK.nil {P:Program} {f:FuncId} (h:∃ fn,P.funcs[f]? = some fn∧(fn.name == "runtime.NumGoroutine")=false∧fn.body.isNone=false):aK P f A73:=⟨h,fun _ _ _ _ _ _ _ _ h=>by cases h⟩
theorem AHS (es:MP):qE (bE es)=List.map (cC Sy.str false (Sy.int IntKind.i64)) es:=by
 unfold qE bE
 rw[List.map_map];rfl
theorem VA {α:Type} (id:ByteArray):∀ (l:List (ByteArray×α)) (i:Nat) (es:MP),(∃ v,iR es id=some v∧iR (IQ (ids l) i es) id=some v)∨(iR es id=none∧iR (IQ (ids l) i es) id=none∧l.find? (fun s=>decide (s.1=id))=none) ∨
  (iR es id=none∧∃ k,∃ h:k<l.length,iR (IQ (ids l) i es) id=some ((i+k:Nat):Int)∧l.find? (fun s=>decide (s.1=id))=some l[k])
 | [],i,es=>by
  cases h:iR es id with
  | none=>exact .inr (.inl ⟨rfl,by simpa [ids,IQ] using h,rfl⟩)
  | some v=>exact .inl ⟨v,rfl,by simpa [ids,IQ] using h⟩
 | a::l,i,es=>by
  have hs:ids (a::l)=a.1::ids l:=rfl
  rw[hs]
  simp only[IQ]
  have ih:=VA id l (i+1) (match iR es a.1 with|none=>wL es a.1 (i:Int)|some _=>es)
  by_cases ha:a.1=id
  ·subst ha
   cases hc:iR es a.1 with
   | some v =>
    simp only[hc] at ih ⊢
    rcases ih with ⟨v',h1,h2⟩|⟨h1,_⟩|⟨h1,_⟩
    ·exact .inl ⟨v',h1,h2⟩
    ·cases h1
    ·cases h1
   | none =>
    simp only[hc] at ih ⊢
    have hg:iR (wL es a.1 (i:Int)) a.1=some (i:Int):=by rw[xG];simp
    rw[hg] at ih
    rcases ih with ⟨v',h1,h2⟩|⟨h1,_⟩|⟨h1,_⟩
    ·cases h1
     exact .inr (.inr ⟨by first|rfl|trivial,0,by simp,by simpa using h2,by simp⟩)
    ·cases h1
    ·cases h1
  ·have hg:iR (match iR es a.1 with|none=>wL es a.1 (i:Int)|some _=>es) id=iR es id:=by
    cases hc:iR es a.1 with
    | none=>simp only[xG,ha,if_false]
    | some v=>rfl
   rw[hg] at ih
   rcases ih with ⟨v',h1,h2⟩|⟨h1,h2,h3⟩|⟨h1,k,hk,h2,h3⟩
   ·exact .inl ⟨v',h1,h2⟩
   ·exact .inr (.inl ⟨h1,h2,by rw[List.find?_cons_of_neg (by simpa using ha)];exact h3⟩)
   ·exact .inr (.inr ⟨h1,k+1,by simpa using hk,h2.trans (by congr 2;omega),by rw[List.find?_cons_of_neg (by simpa using ha)];simpa using h3⟩)
theorem xH {α:Type} (id:ByteArray) (l:List (ByteArray×α)):(iR (gW (ids l)) id=none∧l.find? (fun s=>decide (s.1=id))=none)∨(∃ k,∃ h:k<l.length,iR (gW (ids l)) id=some (k:Int)∧l.find? (fun s=>decide (s.1=id))=some l[k]):=by
 rcases VA id l 0 [] with ⟨v,h,_⟩|⟨_,h1,h2⟩|⟨_,k,hk,h1,h2⟩
 ·cases h
 ·exact .inl ⟨h1,h2⟩
 ·exact .inr ⟨k,hk,h1.trans (by rw[Nat.zero_add]),h2⟩
theorem ixK {α:Type} {id:ByteArray} {l:List (ByteArray×α)} {A:Prop} {B:Nat→Int→Prop} (hA:l.find? (fun s=>decide (s.1=id))=none→A) (hB:∀ i k (h:k<l.length),l.find? (fun s=>decide (s.1=id))=some l[k]→B i (k:Int)) :
  gG TypeDesc.string (Value.string id) (qE (bE (gW (ids l)))) false (Sy.int IntKind.i64) A B:=by
 rw[AHS]
 refine DW (r:=.int .i64) (fun h=>hA ?_) fun i v h=>?_
 ·rcases xH id l with ⟨_,h2⟩|⟨k,hk,h1,_⟩
  ·exact h2
  ·rw[h] at h1;cases h1
 ·rcases xH id l with ⟨h1,_⟩|⟨k,hk,h1,h2⟩
  ·rw[h] at h1;cases h1
  ·rw[h] at h1;cases h1;exact hB i k hk h2
def kU (a0:aF) (m1:List (ByteArray×Int)) (m2:List (ByteArray×Int)) (m3:List (ByteArray×Int)) (m4:List (ByteArray×Int)) (a5:ByteArray):List T:=[SP a0 m1 m2 m3 m4,T.v (.string a5)]
noncomputable def NQ:Env:=Env.of []
def AEP:FuncId→Hint:=fun f=>match f == 38 with|true=>⟨fun r=>match r == 3 with|true=>.inv [.val 1 false .str,.own 6 1 .str,.val 9 false (.int .i64)]|false=>.none,fun _ _=>none,fun _=>none⟩|false=>aT
theorem AKD:aE Tryz.prog NQ:=aE.nil _
def OZ (a0:aF) (m1:List (ByteArray×Int)) (m2:List (ByteArray×Int)) (m3:List (ByteArray×Int)) (m4:List (ByteArray×Int)) (a5:ByteArray) (R:T→Prop):Prop :=
 a7 (ByteArray×List ByteArray×Int×PUnit)
 (fun (X0:ByteArray×List ByteArray×Int×PUnit→Prop) (s1:ByteArray×List ByteArray×Int×PUnit) =>
 aB (decide (s1.2.2.1<65))
 (gG TypeDesc.string (Value.string s1.1) (qE (bE m1)) false
 (Sy.int IntKind.i64) (R (T.cQ [T.sl false [],T.v (.bool false)]))
 fun (i2:Nat) (y3:Int) =>
 aO bH (List.map bH.enc a0.2.1) y3 fun (y4:gU) =>
 bV
 (decide (((List.map Sy.str.enc s1.2.1).length+1)*16≤140737488355328) &&
 decide ((List.map Sy.str.enc s1.2.1).length+1≤140737488355328))
 (aB (decide (y4.2.1=1))
 (R
 (T.cQ
 [T.sl false (List.map Sy.str.enc s1.2.1++[[T.v (.string s1.1)]]),
 T.v (.bool true)]))
 (bX Sy.str (List.map Sy.str.enc s1.2.1++[[T.v (.string s1.1)]])
 fun (y5:List ByteArray)=>X0 (y4.2.2,y5,IntKind.i64.wrap (s1.2.2.1+1),()))))
 (R (T.cQ [T.sl false [],T.v (.bool false)])))
 (a5,[],0,())
theorem ADH ( a0 m1 m2 m3 m4 a5 R):bA aW Tryz.prog NQ AEP 8 67 (kU a0 m1 m2 m3 m4 a5) R=OZ a0 m1 m2 m3 m4 a5 R:=by kernel_rfl
theorem DG (x y:aF×MP×MP×MP×MP×ByteArray) (h:kU x.1 x.2.1 x.2.2.1 x.2.2.2.1 x.2.2.2.2.1 x.2.2.2.2.2=kU y.1 y.2.1 y.2.2.1 y.2.2.2.1 y.2.2.2.2.1 y.2.2.2.2.2):x=y:=by
 obtain ⟨h1,h2⟩:=List.cons.inj h
 have:=qC (x:=(x.1,x.2.1,x.2.2.1,x.2.2.2.1,x.2.2.2.2.1)) (y:=(y.1,y.2.1,y.2.2.1,y.2.2.2.1,y.2.2.2.2.1)) h1
 simp only[List.cons.injEq,T.v.injEq,Value.string.injEq,and_true] at h2
 simp only[Prod.mk.injEq] at this
 obtain ⟨e1,e2,e3,e4,e5⟩:=this
 exact Prod.ext e1 (Prod.ext e2 (Prod.ext e3 (Prod.ext e4 (Prod.ext e5 h2))))
def J0 (x:aF×MP×MP×MP×MP×ByteArray):Option T:=wH (x.1,x.2.1,x.2.2.1,x.2.2.2.1,x.2.2.2.2.1) (Sh.enc [(false,.li .str),(false,.bool)] (up x.1 x.2.2.2.2.2))
noncomputable def iB:List T→Option (T):=gA (fun (x:aF×(List (ByteArray×Int))×(List (ByteArray×Int))×(List (ByteArray×Int))×(List (ByteArray×Int))×ByteArray)=>kU x.1 x.2.1 x.2.2.1 x.2.2.2.1 x.2.2.2.2.1 x.2.2.2.2.2) J0
theorem AHF (a0:aF) (m1:List (ByteArray×Int)) (m2:List (ByteArray×Int)) (m3:List (ByteArray×Int)) (m4:List (ByteArray×Int)) (a5:ByteArray):iB (kU a0 m1 m2 m3 m4 a5)=J0 (a0,m1,m2,m3,m4,a5):=lA (A:=(fun (x:aF×(List (ByteArray×Int))×(List (ByteArray×Int))×(List (ByteArray×Int))×(List (ByteArray×Int))×ByteArray)=>kU x.1 x.2.1 x.2.2.1 x.2.2.2.1 x.2.2.2.2.1 x.2.2.2.2.2)) DG (a0,m1,m2,m3,m4,a5)
theorem AUO (h:∀ (a0:aF) (m1:List (ByteArray×Int)) (m2:List (ByteArray×Int)) (m3:List (ByteArray×Int)) (m4:List (ByteArray×Int)) (a5:ByteArray) (r:T),J0 (a0,m1,m2,m3,m4,a5)=some r→(∀ t∈kU a0 m1 m2 m3 m4 a5,Bd t)→OZ a0 m1 m2 m3 m4 a5 (fun y=>y=r)):aK Tryz.prog 67 iB :=
 fK (E:=NQ) (Hs:=AEP) AKD aU aV (aL rfl) 8 ⟨_,_,Tryz.func67,rfl⟩ fun x r h1 h2=>by
  rw[ADH]
  exact h x.1 x.2.1 x.2.2.1 x.2.2.2.1 x.2.2.2.2.1 x.2.2.2.2.2 r h1 h2
theorem U4:aK Tryz.prog 67 iB:=AUO fun d m1 m2 m3 m4 id0 r h hb=>by
 obtain ⟨hx,hs,rfl⟩:=nJ h
 simp only[Prod.mk.injEq,true_and] at hx
 obtain ⟨rfl,rfl,rfl,rfl⟩:=hx
 clear h
 unfold OZ
 refine aY 65 (fun k s=>∃ id' l',s=(id',l',(k:Int),())∧l'.length=k∧upF d (65-k) id' l'=up d id0) ⟨id0,[],rfl,rfl,rfl⟩ ?_
 rintro X k s hk ⟨id',l',rfl,hl,hu⟩ hX
 dsimp only
 have stop:up d id0=([],false)→T.cQ [T.sl false [],T.v (.bool false)]=Sh.enc [(false,.li .str),(false,.bool)] (up d id0):=fun h=>by rw[h];rfl
 refine bJ (fun hlt=>?_) fun hge=>stop ?_
 ·have hlt:k<65:=by omega
  obtain ⟨m,hm⟩:∃ m,65-k=m+1:=⟨64-k,by omega⟩
  rw[hm] at hu
  simp only[upF] at hu
  refine ixK (fun hn=>stop ?_) fun i j hj hn=>?_
  ·have hn:cJ d id'=none:=hn
   rw[hn] at hu;exact hu.symm
  ·have hn:cJ d id'=some d.2.1[j]:=hn
   simp only[hn] at hu
   rw[aS (r:=bH) hj,B3 (by omega),DO]
   refine bJ (fun h1=>?_) fun h1=>?_
   ·rw[if_pos h1] at hu
    rw[←hu,AFJ];rfl
   ·rw[if_neg h1] at hu
    exact hX _ hlt ⟨_,_,by rw[show IntKind.i64.wrap ((k:Int)+1)=((k+1:Nat):Int) from aQ _ (by omega) (by omega)],by simp[hl],by rw[←hu];congr 1;omega⟩
 ·have:65-k=0:=by omega
  rw[this] at hu
  exact hu.symm
def nF (d:aF) (n:gU):Int:=if gP n.1=false then 6 else if ¬ n.2.1=1∧¬ n.2.1=2 then 10 else if n.2.1=1∧¬ n.2.2 = { data:=#[] } then 2 else if n.2.1=2∧(cJ d n.2.2).isNone=true then 8 else 0
def AHX (d:aF):Bool:=d.2.1.any fun n=>!(up d n.1).2
def PV (d:aF):Bool:=d.2.1.any fun n=>decide (8<(up d n.1).1.length)
def eD (d:aF):Int:=if bC (nF d) d.2.1=0 then (if AHX d=true then 20 else if PV d=true then 13 else 0) else bC (nF d) d.2.1
def o3 (a0:aF) (m1:List (ByteArray×Int)) (m2:List (ByteArray×Int)) (m3:List (ByteArray×Int)) (m4:List (ByteArray×Int)):List T:=[SP a0 m1 m2 m3 m4]
noncomputable def MN:Env:=Env.of [(66,.pure dJ),(67,.pure iB)]
def ADP:FuncId→Hint:=fun f=>match f == 25 with|true=>⟨fun r=>match r == 2 with|true=>.inv [.val 20 false (.int .i64)]|false=>match r == 16 with|true=>.inv [.val 7 false .bool,.val 74 false (.int .i64)]|false=>.none,fun _ _=>none,fun _=>none⟩|false=>aT
theorem AJD:aE Tryz.prog MN:=aE.cons (x:=.pure dJ) LO (aE.cons (x:=.pure iB) U4 (aE.nil _))
def NX (a0:aF) (m1:List (ByteArray×Int)) (m2:List (ByteArray×Int)) (m3:List (ByteArray×Int)) (m4:List (ByteArray×Int)) (R:T→Prop):Prop :=
 a7 (Int×PUnit)
 (fun (X0:Int×PUnit→Prop) (s1:Int×PUnit) =>
 aB (decide (s1.1<(↑(List.map bH.enc a0.2.1).length:Int)))
 (aO bH (List.map bH.enc a0.2.1) s1.1 fun (y2:gU) =>
 gG TypeDesc.string (Value.string y2.2.2) (qE (bE m1)) false
 (Sy.int IntKind.i64)
 (aG [(false,Sy.bool)] (dJ [T.v (.string y2.1)]) fun (y6:Bool) =>
 aB (!y6) (R (T.v (.int .i64 6)))
 (aB (!decide (y2.2.1=1))
 (aB (!decide (y2.2.1=2)) (R (T.v (.int .i64 10)))
 (aB (decide (y2.2.1=1))
 (aB (!decide (y2.2.2 = { data:=#[] })) (R (T.v (.int .i64 2)))
 (aB (decide (y2.2.1=2)) (R (T.v (.int .i64 8)))
 (X0 (IntKind.i64.wrap (s1.1+1),()))))
 (aB (decide (y2.2.1=2)) (R (T.v (.int .i64 8)))
 (X0 (IntKind.i64.wrap (s1.1+1),())))))
 (aB (decide (y2.2.1=1))
 (aB (!decide (y2.2.2 = { data:=#[] })) (R (T.v (.int .i64 2)))
 (aB (decide (y2.2.1=2)) (R (T.v (.int .i64 8)))
 (X0 (IntKind.i64.wrap (s1.1+1),()))))
 (aB (decide (y2.2.1=2)) (R (T.v (.int .i64 8)))
 (X0 (IntKind.i64.wrap (s1.1+1),()))))))
 fun (i3:Nat) (y4:Int) =>
 aG [(false,Sy.bool)] (dJ [T.v (.string y2.1)]) fun (y5:Bool) =>
 aB (!y5) (R (T.v (.int .i64 6)))
 (aB (!decide (y2.2.1=1))
 (aB (!decide (y2.2.1=2)) (R (T.v (.int .i64 10)))
 (aB (decide (y2.2.1=1))
 (aB (!decide (y2.2.2 = { data:=#[] })) (R (T.v (.int .i64 2)))
 (aB (decide (y2.2.1=2)) (X0 (IntKind.i64.wrap (s1.1+1),()))
 (X0 (IntKind.i64.wrap (s1.1+1),()))))
 (aB (decide (y2.2.1=2)) (X0 (IntKind.i64.wrap (s1.1+1),()))
 (X0 (IntKind.i64.wrap (s1.1+1),())))))
 (aB (decide (y2.2.1=1))
 (aB (!decide (y2.2.2 = { data:=#[] })) (R (T.v (.int .i64 2)))
 (aB (decide (y2.2.1=2)) (X0 (IntKind.i64.wrap (s1.1+1),()))
 (X0 (IntKind.i64.wrap (s1.1+1),()))))
 (aB (decide (y2.2.1=2)) (X0 (IntKind.i64.wrap (s1.1+1),()))
 (X0 (IntKind.i64.wrap (s1.1+1),()))))))
 (a7 (Bool×Int×PUnit)
 (fun (X7:Bool×Int×PUnit→Prop) (s8:Bool×Int×PUnit) =>
 aB (decide (s8.2.1<(↑(List.map bH.enc a0.2.1).length:Int)))
 (aO bH (List.map bH.enc a0.2.1) s8.2.1 fun (y9:gU) =>
 aG [(false,Sy.str.li),(false,Sy.bool)]
 (iB
 [T.ref
 [T.ref
 [T.v (.string a0.1),T.sl false (List.map bH.enc a0.2.1),
 T.sl false (List.map aX.enc a0.2.2.1),
 T.sl false (List.map bW.enc a0.2.2.2.1),
 T.sl false (List.map aR.enc a0.2.2.2.2.1),
 T.sl false (List.map b6.enc a0.2.2.2.2.2)],
 T.mp (bE m1),T.mp (bE m2),T.mp (bE m3),
 T.mp (bE m4)],
 T.v (.string y9.1)])
 fun (y10:List ByteArray×Bool) =>
 aB (!y10.2) (R (T.v (.int .i64 20)))
 (aB s8.1 (X7 (true,IntKind.i64.wrap (s8.2.1+1),()))
 (X7
 (decide (8<(↑(List.map Sy.str.enc y10.1).length:Int)),
 IntKind.i64.wrap (s8.2.1+1),()))))
 (aB s8.1 (R (T.v (.int .i64 13)))
 (R (T.v (.int .i64 0)))))
 (false,0,())))
 (0,())
theorem ACG ( a0 m1 m2 m3 m4 R):bA aW Tryz.prog MN ADP 8 25 (o3 a0 m1 m2 m3 m4) R=NX a0 m1 m2 m3 m4 R:=by kernel_rfl
theorem WE (x y:aF×MP×MP×MP×MP) (h:o3 x.1 x.2.1 x.2.2.1 x.2.2.2.1 x.2.2.2.2=o3 y.1 y.2.1 y.2.2.1 y.2.2.2.1 y.2.2.2.2):x=y:=qC (List.cons.inj h).1
def JA (x:aF×MP×MP×MP×MP):Option T:=wH x (T.v (Value.int .i64 (eD x.1)))
noncomputable def tM:List T→Option (T):=gA (fun (x:aF×(List (ByteArray×Int))×(List (ByteArray×Int))×(List (ByteArray×Int))×List (ByteArray×Int))=>o3 x.1 x.2.1 x.2.2.1 x.2.2.2.1 x.2.2.2.2) JA
theorem AF3 (a0:aF) (m1:List (ByteArray×Int)) (m2:List (ByteArray×Int)) (m3:List (ByteArray×Int)) (m4:List (ByteArray×Int)):tM (o3 a0 m1 m2 m3 m4)=JA (a0,m1,m2,m3,m4):=lA (A:=(fun (x:aF×(List (ByteArray×Int))×(List (ByteArray×Int))×(List (ByteArray×Int))×List (ByteArray×Int))=>o3 x.1 x.2.1 x.2.2.1 x.2.2.2.1 x.2.2.2.2)) WE (a0,m1,m2,m3,m4)
theorem ATO (h:∀ (a0:aF) (m1:List (ByteArray×Int)) (m2:List (ByteArray×Int)) (m3:List (ByteArray×Int)) (m4:List (ByteArray×Int)) (r:T),JA (a0,m1,m2,m3,m4)=some r→(∀ t∈o3 a0 m1 m2 m3 m4,Bd t)→NX a0 m1 m2 m3 m4 (fun y=>y=r)):aK Tryz.prog 25 tM :=
 fK (E:=MN) (Hs:=ADP) AJD aU aV (aL rfl) 8 ⟨_,_,Tryz.func25,rfl⟩ fun x r h1 h2=>by
  rw[ACG]
  exact h x.1 x.2.1 x.2.2.1 x.2.2.2.1 x.2.2.2.2 r h1 h2
theorem KT {d:aF} (hs:lT d) (id:ByteArray):iB (kU d (gW (ids d.2.1)) (gW (ids d.2.2.1)) (gW (ids d.2.2.2.1)) (gW (ids d.2.2.2.2.1)) id)=some (Sh.enc [(false,.li .str),(false,.bool)] (up d id)):=by
 rw[AHF];exact nK hs _
theorem mD (s:ByteArray) (K:Bool→Prop):aG [(false,Sy.bool)] (dJ [T.v (.string s)]) K=K (gP s):=by
 rw[show dJ [T.v (.string s)]=MF s from AS5]
 exact AIC _ K
theorem ASC:aK Tryz.prog 25 tM:=ATO fun d m1 m2 m3 m4 r h hb=>by
 obtain ⟨hx,hs,rfl⟩:=nJ h
 simp only[Prod.mk.injEq,true_and] at hx
 obtain ⟨rfl,rfl,rfl,rfl⟩:=hx
 clear h
 have is:∀ {n:Int},eD d=n→T.v (.int .i64 n)=T.v (.int .i64 (eD d)):=fun h=>by rw[h]
 unfold NX
 refine fG (r:=bH) (nF d) hs.n (fun X s y hy hok hbad=>?_) fun h0=>?_
 ·have bad:∀ {n:Int},n≠0→nF d y=n→T.v (.int .i64 n)=T.v (.int .i64 (eD d)):=fun hn h=>is (by
   have:=hbad (by rw[h];exact hn)
   unfold eD
   rw[if_neg (by rw[this,h];exact hn),this,h])
  have tail:∀ {Z2 Z:Prop},gP y.1=true→(y.2.1=2→Z2)→(nF d y=0→Z) →
   aB (!decide (y.2.1=1))
        (aB (!decide (y.2.1=2)) (T.v (.int .i64 10)=T.v (.int .i64 (eD d)))
         (aB (decide (y.2.1=1))
          (aB (!decide (y.2.2 = { data:=#[] })) (T.v (.int .i64 2)=T.v (.int .i64 (eD d)))
           (aB (decide (y.2.1=2)) Z2 Z))
          (aB (decide (y.2.1=2)) Z2 Z)))
        (aB (decide (y.2.1=1))
         (aB (!decide (y.2.2 = { data:=#[] })) (T.v (.int .i64 2)=T.v (.int .i64 (eD d)))
          (aB (decide (y.2.1=2)) Z2 Z))
         (aB (decide (y.2.1=2)) Z2 Z)):=by
   intro Z2 Z hid h2 h1
   refine gT (fun g1=>?_) fun g1=>?_
   ·refine gT (fun g2=>bad (by decide) (by unfold nF;rw[if_neg (by simp[hid]),if_pos ⟨g1,g2⟩])) fun g2=>?_
    refine bJ (fun h=>absurd h g1) fun _=>?_
    exact bJ (fun _=>h2 g2) fun h=>absurd g2 h
   ·refine bJ (fun _=>?_) fun h=>absurd g1 h
    refine gT (fun g3=>bad (by decide) (by unfold nF;rw[if_neg (by simp[hid]),if_neg (by simp[g1]),if_pos ⟨g1,g3⟩])) fun g3=>?_
    exact bJ (fun h=>by rw[g1] at h;cases h) fun h=>h1 (by unfold nF;rw[if_neg (by simp[hid]),if_neg (by simp[g1]),if_neg (by simp[g3]),if_neg (by simp[h])])
  refine ixK (fun hn=>?_) fun i j hj hn=>?_
  ·have hn:cJ d y.2.2=none:=hn
   rw[mD]
   refine dK (fun hid=>bad (by decide) (by unfold nF;rw[if_pos hid])) fun hid=>?_
   refine tail hid (fun h2=>bad (by decide) ?_) fun h0=>hok h0
   unfold nF;rw[if_neg (by simp[hid]),if_neg (by simp[h2]),if_neg (by simp[h2]),if_pos ⟨h2,by rw[hn];rfl⟩]
  ·have hn:cJ d y.2.2=some d.2.1[j]:=hn
   rw[mD]
   refine dK (fun hid=>bad (by decide) (by unfold nF;rw[if_pos hid])) fun hid=>?_
   refine tail hid (fun h2=>hok ?_) fun h0=>hok h0
   unfold nF;rw[if_neg (by simp[hid]),if_neg (by simp[h2]),if_neg (by simp[h2]),if_neg (by simp[hn])]
 ·have hn:d.2.1.length≤140737488355328:=hs.n
  refine aY d.2.1.length (fun k s=>s=((d.2.1.take k).any (fun n=>decide (8<(up d n.1).1.length)),(k:Int),())∧∀ n∈d.2.1.take k,(up d n.1).2=true) ⟨rfl,by simp⟩ ?_
  rintro X k s hk ⟨rfl,hall⟩ hX
  dsimp only
  refine bJ (fun hlt=>?_) fun hge=>?_
  ·rw[List.length_map] at hlt
   have hlt:k<d.2.1.length:=by omega
   rw[aS (r:=bH) hlt]
   refine aD (s:=[(false,.li .str),(false,.bool)]) (KT hs d.2.1[k].1) ?_
   have ht:d.2.1.take (k+1)=d.2.1.take k++[d.2.1[k]]:=List.take_succ_eq_append_getElem hlt
   have hw:IntKind.i64.wrap ((k:Int)+1)=((k+1:Nat):Int):=aQ _ (by omega) (by omega)
   refine dK (fun hu=>is ?_) fun hu=>?_
   ·unfold eD
    rw[if_pos h0,if_pos (show AHX d=true from List.any_eq_true.2 ⟨_,List.getElem_mem hlt,by rw[hu];rfl⟩)]
   ·have hall':∀ n∈d.2.1.take (k+1),(up d n.1).2=true:=fun n hm=>by
     rw[ht] at hm
     rcases List.mem_append.1 hm with h|h
     ·exact hall n h
     ·simp at h;subst h;exact hu
    refine tA (fun hd=>?_) fun hd=>?_
    ·refine hX _ hlt ⟨?_,hall'⟩
     rw[hw,ht,List.any_append,hd];rfl
    ·refine hX _ hlt ⟨?_,hall'⟩
     rw[hw,ht,List.any_append,hd]
     simp only[List.length_map,List.any_cons,List.any_nil,Bool.or_false,Bool.false_or,Prod.mk.injEq,and_true]
     congr 1
     exact propext ⟨fun h=>by omega,fun h=>by omega⟩
  ·rw[List.length_map] at hge
   have:k=d.2.1.length:=by omega
   subst this
   rw[List.take_length] at hall ⊢
   have hnu:AHX d=false:=by
    rw[Bool.eq_false_iff];intro h
    obtain ⟨n,hm,h⟩:=List.any_eq_true.1 h
    rw[hall n hm] at h;cases h
   refine tA (fun h=>is ?_) fun h=>is ?_
   ·unfold eD;rw[if_pos h0,hnu,if_neg (by simp),if_pos (show PV d=true from h)]
   ·unfold eD;rw[if_pos h0,hnu,if_neg (by simp),if_neg (by rw[show PV d=false from h];simp)]
end Go.Pv
namespace Go.Pv
abbrev Pt:=Int×Int
def aI (a b c:Pt):Int:=(b.1-a.1)*(c.2-a.2)-(b.2-a.2)*(c.1-a.1)
def sW (n:Int):Int:=if n<0 then -1 else if 0<n then 1 else 0
def LM (a b q:Pt):Bool:=decide (min a.1 b.1≤q.1)&&decide (q.1≤max a.1 b.1)&&(decide (min a.2 b.2≤q.2)&&decide (q.2≤max a.2 b.2))
def iP (a b q:Pt):Bool:=decide (aI a b q=0)&&LM a b q
def bO (a b c d:Pt):Bool:=iP a b c||iP a b d||iP c d a||iP c d b||(decide (sW (aI a b c)*sW (aI a b d)<0)&&decide (sW (aI c d a)*sW (aI c d b)<0))
def bS (q:Pt):Prop:=-32768≤q.1∧q.1≤32768∧-32768≤q.2∧q.2≤32768
theorem CI {x y M N:Int} (hx:-M≤x∧x≤M) (hy:-N≤y∧y≤N) (hM:0≤M) (hN:0≤N):-(M*N)≤x*y∧x*y≤M*N:=by
 have h1:x.natAbs≤M.toNat:=by omega
 have h2:y.natAbs≤N.toNat:=by omega
 have h3:=Nat.mul_le_mul h1 h2
 rw[←Int.natAbs_mul] at h3
 have h4:((M.toNat*N.toNat:Nat):Int)=M*N:=by
  rw[Int.natCast_mul,Int.toNat_of_nonneg hM,Int.toNat_of_nonneg hN]
 omega
theorem AXC {a b c:Pt} (ha:bS a) (hb:bS b) (hc:bS c):(-4294967296≤(b.1-a.1)*(c.2-a.2)∧(b.1-a.1)*(c.2-a.2)≤4294967296)∧(-4294967296≤(b.2-a.2)*(c.1-a.1)∧(b.2-a.2)*(c.1-a.1)≤4294967296):=by
 unfold bS at ha hb hc
 have h1:=CI (x:=b.1-a.1) (y:=c.2-a.2) (M:=65536) (N:=65536) (by omega) (by omega) (by omega) (by omega)
 have h2:=CI (x:=b.2-a.2) (y:=c.1-a.1) (M:=65536) (N:=65536) (by omega) (by omega) (by omega) (by omega)
 constructor<;>constructor<;>omega
theorem A0G (n:Int):-1≤sW n∧sW n≤1:=by unfold sW;split<;>(try split)<;>omega
theorem mF (a b c d:Pt):bO a b c d=bO c d a b:=by
 unfold bO
 cases iP a b c<;>cases iP a b d<;>cases iP c d a<;>cases iP c d b<;>simp[Bool.and_comm]
end Go.Pv
namespace Go.Pv
theorem AAA (a b u v:Pt):aI u v b-aI u v a+aI a b v-aI a b u=0:=by
 simp only[aI];grind
theorem A78 (a b u v:Pt):(a.2-u.2)*aI u v b-(b.2-u.2)*aI u v a-(v.2-u.2)*aI a b u=0:=by
 simp only[aI];grind
theorem A79 (a b u v:Pt):(a.2-v.2)*aI u v b-(b.2-v.2)*aI u v a+(u.2-v.2)*aI a b v=0:=by
 simp only[aI];grind
theorem A76 (a b u v:Pt):(b.2-a.2)*aI u v a+(v.2-a.2)*aI a b u-(u.2-a.2)*aI a b v=0:=by
 simp only[aI];grind
theorem A77 (a b u v:Pt):(b.2-a.2)*aI u v b+(v.2-b.2)*aI a b u-(u.2-b.2)*aI a b v=0:=by
 simp only[aI];grind
end Go.Pv
namespace Go.Pv
def hit (a b q:Pt):Bool:=(decide (a.2≤q.2)&&decide (q.2<b.2)&&decide (0<aI a b q))||(decide (b.2≤q.2)&&decide (q.2<a.2)&&decide (aI a b q<0))
def dr (u v w:Pt):Bool:=decide (u.2<w.2)&&decide (w.2≤v.2)&&decide (aI u v w<0)
theorem gC (a b q:Pt):aI b a q = - aI a b q:=by simp only[aI];grind
theorem AHJ (a b q:Pt):hit a b q=hit b a q:=by
 have e1:decide (0<aI b a q)=decide (aI a b q<0):=decide_eq_decide.2 (by rw[gC a b q];omega)
 have e2:decide (aI b a q<0)=decide (0<aI a b q):=decide_eq_decide.2 (by rw[gC a b q];omega)
 unfold hit
 rw[e1,e2,Bool.or_comm]
theorem A58 {a b q:Pt} (h:aI a b q=0) (hab:a.2<b.2) (h1:a.2≤q.2) (h2:q.2≤b.2):LM a b q=true:=by
 have e:(b.1-a.1)*(q.2-a.2)=(b.2-a.2)*(q.1-a.1):=by unfold aI at h;omega
 have hx:min a.1 b.1≤q.1∧q.1≤max a.1 b.1:=by
  rcases Int.le_total a.1 b.1 with hd|hd
  ·have m1:=Int.mul_nonneg (show 0≤b.1-a.1 by omega) (show 0≤q.2-a.2 by omega)
   have m2:(b.1-a.1)*(q.2-a.2)≤(b.1-a.1)*(b.2-a.2):=Int.mul_le_mul_of_nonneg_left (by omega) (by omega)
   have p1:0≤q.1-a.1:=by
    refine Int.not_lt.1 fun h=>?_
    have:=Int.mul_neg_of_pos_of_neg (show 0<b.2-a.2 by omega) h
    omega
   have p2:q.1-a.1≤b.1-a.1:=by
    refine Int.not_lt.1 fun h=>?_
    have h3:=Int.mul_lt_mul_of_pos_left h (show 0<b.2-a.2 by omega)
    have h4:(b.2-a.2)*(b.1-a.1)=(b.1-a.1)*(b.2-a.2):=Int.mul_comm _ _
    omega
   omega
  ·have m1:=Int.mul_nonneg (show 0≤a.1-b.1 by omega) (show 0≤q.2-a.2 by omega)
   have m2:(a.1-b.1)*(q.2-a.2)≤(a.1-b.1)*(b.2-a.2):=Int.mul_le_mul_of_nonneg_left (by omega) (by omega)
   have e1:(a.1-b.1)*(q.2-a.2) = - ((b.1-a.1)*(q.2-a.2)):=by grind
   have p1:q.1-a.1≤0:=by
    refine Int.not_lt.1 fun h=>?_
    have:=Int.mul_pos (show 0<b.2-a.2 by omega) h
    omega
   have p2:b.1-a.1≤q.1-a.1:=by
    refine Int.not_lt.1 fun h=>?_
    have h3:=Int.mul_lt_mul_of_pos_left h (show 0<b.2-a.2 by omega)
    have h4:(a.1-b.1)*(b.2-a.2) = - ((b.2-a.2)*(b.1-a.1)):=by grind
    omega
   omega
 simp only[LM,Bool.and_eq_true,decide_eq_true_eq]
 omega
theorem lH {a b q:Pt} (h:aI a b q=0) (hab:a.2<b.2) (h1:a.2≤q.2) (h2:q.2≤b.2):iP a b q=true:=by
 unfold iP;rw[decide_eq_true h,A58 h hab h1 h2];rfl
theorem AAJ {a b q:Pt} (h1:a.2=q.2) (h2:b.2=q.2) (h3:min a.1 b.1≤q.1) (h4:q.1≤max a.1 b.1):iP a b q=true:=by
 unfold iP LM aI
 simp only[Bool.and_eq_true,decide_eq_true_eq]
 refine ⟨?_,⟨h3,h4⟩,by omega⟩
 rw[h1,h2];grind
theorem nD {a b u v:Pt} (hm:bO a b u v=false):¬ (((0<aI a b u∧aI a b v<0)∨(aI a b u<0∧0<aI a b v))∧((0<aI u v a∧aI u v b<0)∨(aI u v a<0∧0<aI u v b))):=by
 rintro ⟨h1,h2⟩
 have s1:sW (aI a b u)*sW (aI a b v)<0:=by
  unfold sW
  rcases h1 with ⟨h,h'⟩|⟨h,h'⟩
  ·rw[if_neg (by omega),if_pos h,if_pos h'];decide
  ·rw[if_pos h,if_neg (by omega),if_pos h'];decide
 have s2:sW (aI u v a)*sW (aI u v b)<0:=by
  unfold sW
  rcases h2 with ⟨h,h'⟩|⟨h,h'⟩
  ·rw[if_neg (by omega),if_pos h,if_pos h'];decide
  ·rw[if_pos h,if_neg (by omega),if_pos h'];decide
 simp[bO,s1,s2] at hm
theorem pO {a b u v:Pt} (hm:bO a b u v=false):iP a b u=false∧iP a b v=false∧iP u v a=false∧iP u v b=false:=by
 simp only[bO,Bool.or_eq_false_iff] at hm
 exact ⟨hm.1.1.1.1,hm.1.1.1.2,hm.1.1.2,hm.1.2⟩
theorem AIB {a b u v:Pt} (huv:u.2≤v.2) (hm:bO a b u v=false) (h1:a.2≤u.2) (h2:v.2<b.2):0<aI a b u↔0<aI a b v:=by
 obtain ⟨n1,n2,n3,n4⟩:=pO hm
 have ms:=nD hm
 have i1:=AAA a b u v
 have i2:=A78 a b u v
 have i3:=A79 a b u v
 have z1:aI a b u≠0:=fun h=>by rw[lH h (by omega) h1 (by omega)] at n1;cases n1
 have z2:aI a b v≠0:=fun h=>by rw[lH h (by omega) (by omega) (by omega)] at n2;cases n2
 have e1:(a.2-u.2)*aI u v b = - ((u.2-a.2)*aI u v b):=by grind
 have e2:(a.2-v.2)*aI u v b = - ((v.2-a.2)*aI u v b):=by grind
 have e3:(u.2-v.2)*aI a b v = - ((v.2-u.2)*aI a b v):=by grind
 have flat:u.2=v.2→a.2=u.2→((0<aI a b u∧aI a b v<0)∨(aI a b u<0∧0<aI a b v))→False:=by
  intro g1 g2 g3
  have c1:aI a b u = -((b.2-a.2)*(u.1-a.1)):=by unfold aI;rw[g2];grind
  have c2:aI a b v = -((b.2-a.2)*(v.1-a.1)):=by unfold aI;rw[g2,g1];grind
  have sg:∀ x:Int,(0<(b.2-a.2)*x→0<x)∧((b.2-a.2)*x<0→x<0):=fun x=>by
   refine ⟨fun h=>Int.not_le.1 fun hx=>?_,fun h=>Int.not_le.1 fun hx=>?_⟩
   ·have:=Int.mul_nonpos_of_nonneg_of_nonpos (show 0≤b.2-a.2 by omega) hx
    omega
   ·have:=Int.mul_nonneg (show 0≤b.2-a.2 by omega) hx
    omega
  have k1:=sg (u.1-a.1)
  have k2:=sg (v.1-a.1)
  have:iP u v a=true:=AAJ (by omega) (by omega) (by omega) (by omega)
  rw[this] at n3;cases n3
 constructor
 ·intro t1
  refine Int.not_le.1 fun t2=>?_
  have t2:aI a b v<0:=by omega
  have b1:=Int.mul_nonneg (show 0≤v.2-u.2 by omega) (Int.le_of_lt t1)
  have b2:=Int.mul_nonpos_of_nonneg_of_nonpos (show 0≤v.2-u.2 by omega) (Int.le_of_lt t2)
  rcases Int.lt_or_le (aI u v a) 0 with s1|s1
  ·rcases Int.lt_or_le 0 (aI u v b) with s2|s2
   ·exact ms ⟨.inl ⟨t1,t2⟩,.inr ⟨s1,s2⟩⟩
   ·have c1:=Int.mul_nonpos_of_nonneg_of_nonpos (show 0≤v.2-a.2 by omega) s2
    have c2:=Int.mul_neg_of_pos_of_neg (show 0<b.2-v.2 by omega) s1
    omega
  ·have s2:0<aI u v b:=by omega
   have c1:=Int.mul_nonneg (show 0≤u.2-a.2 by omega) (Int.le_of_lt s2)
   have c2:=Int.mul_nonneg (show 0≤b.2-u.2 by omega) s1
   have g1:v.2-u.2=0:=by
    refine Classical.byContradiction fun h=>?_
    have:=Int.mul_pos (show 0<v.2-u.2 by omega) t1
    omega
   have g2:u.2-a.2=0:=by
    refine Classical.byContradiction fun h=>?_
    have:=Int.mul_pos (show 0<u.2-a.2 by omega) s2
    omega
   exact flat (by omega) (by omega) (.inl ⟨t1,t2⟩)
 ·intro t2
  refine Int.not_le.1 fun t1=>?_
  have t1:aI a b u<0:=by omega
  have b2:=Int.mul_nonneg (show 0≤v.2-u.2 by omega) (Int.le_of_lt t2)
  have b1:=Int.mul_nonpos_of_nonneg_of_nonpos (show 0≤v.2-u.2 by omega) (Int.le_of_lt t1)
  rcases Int.lt_or_le 0 (aI u v a) with s1|s1
  ·rcases Int.lt_or_le (aI u v b) 0 with s2|s2
   ·exact ms ⟨.inr ⟨t1,t2⟩,.inl ⟨s1,s2⟩⟩
   ·have c1:=Int.mul_nonneg (show 0≤v.2-a.2 by omega) s2
    have c2:=Int.mul_pos (show 0<b.2-v.2 by omega) s1
    omega
  ·have s2:aI u v b<0:=by omega
   have c1:=Int.mul_nonpos_of_nonneg_of_nonpos (show 0≤u.2-a.2 by omega) (Int.le_of_lt s2)
   have c2:=Int.mul_nonpos_of_nonneg_of_nonpos (show 0≤b.2-u.2 by omega) s1
   have g1:v.2-u.2=0:=by
    refine Classical.byContradiction fun h=>?_
    have:=Int.mul_neg_of_pos_of_neg (show 0<v.2-u.2 by omega) t1
    omega
   have g2:u.2-a.2=0:=by
    refine Classical.byContradiction fun h=>?_
    have:=Int.mul_neg_of_pos_of_neg (show 0<u.2-a.2 by omega) s2
    omega
   exact flat (by omega) (by omega) (.inr ⟨t1,t2⟩)
end Go.Pv
namespace Go.Pv
theorem A3E {a b u v:Pt} (hm:bO a b u v=false) (h1:a.2≤u.2) (h2:u.2<b.2) (h3:b.2≤v.2):0<aI a b u↔aI u v b<0:=by
 obtain ⟨n1,n2,n3,n4⟩:=pO hm
 have ms:=nD hm
 have i2:=A78 a b u v
 have i4:=A77 a b u v
 have z1:aI a b u≠0:=fun h=>by rw[lH h (by omega) h1 (by omega)] at n1;cases n1
 have z2:aI u v b≠0:=fun h=>by rw[lH h (by omega) (by omega) (by omega)] at n4;cases n4
 have e1:(a.2-u.2)*aI u v b = - ((u.2-a.2)*aI u v b):=by grind
 have e2:(u.2-b.2)*aI a b v = - ((b.2-u.2)*aI a b v):=by grind
 constructor
 ·intro t1
  refine Int.not_le.1 fun s2=>?_
  have s2:0<aI u v b:=by omega
  have c1:=Int.mul_pos (show 0<b.2-a.2 by omega) s2
  have c2:=Int.mul_nonneg (show 0≤v.2-b.2 by omega) (Int.le_of_lt t1)
  have t2:aI a b v<0:=Int.not_le.1 fun h=>by
   have:=Int.mul_nonneg (show 0≤b.2-u.2 by omega) h
   omega
  have c3:=Int.mul_nonneg (show 0≤u.2-a.2 by omega) (Int.le_of_lt s2)
  have c4:=Int.mul_pos (show 0<v.2-u.2 by omega) t1
  have s1:aI u v a<0:=Int.not_le.1 fun h=>by
   have:=Int.mul_nonneg (show 0≤b.2-u.2 by omega) h
   omega
  exact ms ⟨.inl ⟨t1,t2⟩,.inr ⟨s1,s2⟩⟩
 ·intro s2
  refine Int.not_le.1 fun t1=>?_
  have t1:aI a b u<0:=by omega
  have c1:=Int.mul_neg_of_pos_of_neg (show 0<b.2-a.2 by omega) s2
  have c2:=Int.mul_nonpos_of_nonneg_of_nonpos (show 0≤v.2-b.2 by omega) (Int.le_of_lt t1)
  have t2:0<aI a b v:=Int.not_le.1 fun h=>by
   have:=Int.mul_nonpos_of_nonneg_of_nonpos (show 0≤b.2-u.2 by omega) h
   omega
  have c3:=Int.mul_nonpos_of_nonneg_of_nonpos (show 0≤u.2-a.2 by omega) (Int.le_of_lt s2)
  have c4:=Int.mul_neg_of_pos_of_neg (show 0<v.2-u.2 by omega) t1
  have s1:0<aI u v a:=Int.not_le.1 fun h=>by
   have:=Int.mul_nonpos_of_nonneg_of_nonpos (show 0≤b.2-u.2 by omega) h
   omega
  exact ms ⟨.inr ⟨t1,t2⟩,.inl ⟨s1,s2⟩⟩
theorem AZ4 {a b u v:Pt} (hm:bO a b u v=false) (h1:u.2<a.2) (h2:a.2≤v.2) (h3:v.2<b.2):0<aI a b v↔aI u v a<0:=by
 obtain ⟨n1,n2,n3,n4⟩:=pO hm
 have ms:=nD hm
 have i3:=A79 a b u v
 have i4:=A76 a b u v
 have z1:aI a b v≠0:=fun h=>by rw[lH h (by omega) h2 (by omega)] at n2;cases n2
 have z2:aI u v a≠0:=fun h=>by rw[lH h (by omega) (by omega) (by omega)] at n3;cases n3
 have e1:(a.2-v.2)*aI u v b = - ((v.2-a.2)*aI u v b):=by grind
 have e2:(u.2-v.2)*aI a b v = - ((v.2-u.2)*aI a b v):=by grind
 have e3:(u.2-a.2)*aI a b v = - ((a.2-u.2)*aI a b v):=by grind
 constructor
 ·intro t2
  refine Int.not_le.1 fun s1=>?_
  have s1:0<aI u v a:=by omega
  have c1:=Int.mul_pos (show 0<b.2-v.2 by omega) s1
  have c2:=Int.mul_pos (show 0<v.2-u.2 by omega) t2
  have c3:=Int.mul_pos (show 0<b.2-a.2 by omega) s1
  have c4:=Int.mul_pos (show 0<a.2-u.2 by omega) t2
  have s2:aI u v b<0:=Int.not_le.1 fun h=>by
   have:=Int.mul_nonneg (show 0≤v.2-a.2 by omega) h
   omega
  have t1:aI a b u<0:=Int.not_le.1 fun h=>by
   have:=Int.mul_nonneg (show 0≤v.2-a.2 by omega) h
   omega
  exact ms ⟨.inr ⟨t1,t2⟩,.inl ⟨s1,s2⟩⟩
 ·intro s1
  refine Int.not_le.1 fun t2=>?_
  have t2:aI a b v<0:=by omega
  have c1:=Int.mul_neg_of_pos_of_neg (show 0<b.2-v.2 by omega) s1
  have c2:=Int.mul_neg_of_pos_of_neg (show 0<v.2-u.2 by omega) t2
  have c3:=Int.mul_neg_of_pos_of_neg (show 0<b.2-a.2 by omega) s1
  have c4:=Int.mul_neg_of_pos_of_neg (show 0<a.2-u.2 by omega) t2
  have s2:0<aI u v b:=Int.not_le.1 fun h=>by
   have:=Int.mul_nonpos_of_nonneg_of_nonpos (show 0≤v.2-a.2 by omega) h
   omega
  have t1:0<aI a b u:=Int.not_le.1 fun h=>by
   have:=Int.mul_nonpos_of_nonneg_of_nonpos (show 0≤v.2-a.2 by omega) h
   omega
  exact ms ⟨.inl ⟨t1,t2⟩,.inr ⟨s1,s2⟩⟩
theorem A3F {a b u v:Pt} (hm:bO a b u v=false) (h1:u.2<a.2) (h2:a.2≤b.2) (h3:b.2≤v.2):aI u v a<0↔aI u v b<0:=by
 obtain ⟨n1,n2,n3,n4⟩:=pO hm
 have ms:=nD hm
 have i1:=AAA a b u v
 have i3:=A76 a b u v
 have i4:=A77 a b u v
 have z1:aI u v a≠0:=fun h=>by rw[lH h (by omega) (by omega) (by omega)] at n3;cases n3
 have z2:aI u v b≠0:=fun h=>by rw[lH h (by omega) (by omega) (by omega)] at n4;cases n4
 have e2:(u.2-a.2)*aI a b v = - ((a.2-u.2)*aI a b v):=by grind
 have e3:(u.2-b.2)*aI a b v = - ((b.2-u.2)*aI a b v):=by grind
 have flat:a.2=b.2→v.2=b.2→((aI u v a<0∧0<aI u v b)∨(0<aI u v a∧aI u v b<0))→False:=by
  intro g1 g2 g3
  have c1:aI u v a=(v.2-u.2)*(v.1-a.1):=by unfold aI;rw[show a.2=v.2 by omega];grind
  have c2:aI u v b=(v.2-u.2)*(v.1-b.1):=by unfold aI;rw[show b.2=v.2 by omega];grind
  have sg:∀ x:Int,(0<(v.2-u.2)*x→0<x)∧((v.2-u.2)*x<0→x<0):=fun x=>by
   refine ⟨fun h=>Int.not_le.1 fun hx=>?_,fun h=>Int.not_le.1 fun hx=>?_⟩
   ·have:=Int.mul_nonpos_of_nonneg_of_nonpos (show 0≤v.2-u.2 by omega) hx
    omega
   ·have:=Int.mul_nonneg (show 0≤v.2-u.2 by omega) hx
    omega
  have k1:=sg (v.1-a.1)
  have k2:=sg (v.1-b.1)
  have:iP a b v=true:=AAJ (by omega) (by omega) (by omega) (by omega)
  rw[this] at n2;cases n2
 constructor
 ·intro s1
  refine Int.not_le.1 fun s2=>?_
  have s2:0<aI u v b:=by omega
  have d1:=Int.mul_nonpos_of_nonneg_of_nonpos (show 0≤b.2-a.2 by omega) (Int.le_of_lt s1)
  have d2:=Int.mul_nonneg (show 0≤b.2-a.2 by omega) (Int.le_of_lt s2)
  rcases Int.lt_or_le (aI a b v) 0 with t2|t2
  ·rcases Int.lt_or_le 0 (aI a b u) with t1|t1
   ·exact ms ⟨.inl ⟨t1,t2⟩,.inr ⟨s1,s2⟩⟩
   ·have c1:=Int.mul_nonpos_of_nonneg_of_nonpos (show 0≤v.2-a.2 by omega) t1
    have c2:=Int.mul_neg_of_pos_of_neg (show 0<a.2-u.2 by omega) t2
    omega
  ·have t1:0<aI a b u:=by omega
   have c1:=Int.mul_nonneg (show 0≤v.2-b.2 by omega) (Int.le_of_lt t1)
   have c2:=Int.mul_nonneg (show 0≤b.2-u.2 by omega) t2
   have g1:b.2-a.2=0:=Classical.byContradiction fun h=>by
    have:=Int.mul_pos (show 0<b.2-a.2 by omega) s2
    omega
   have g2:v.2-b.2=0:=Classical.byContradiction fun h=>by
    have:=Int.mul_pos (show 0<v.2-b.2 by omega) t1
    omega
   exact flat (by omega) (by omega) (.inl ⟨s1,s2⟩)
 ·intro s2
  refine Int.not_le.1 fun s1=>?_
  have s1:0<aI u v a:=by omega
  have d1:=Int.mul_nonneg (show 0≤b.2-a.2 by omega) (Int.le_of_lt s1)
  have d2:=Int.mul_nonpos_of_nonneg_of_nonpos (show 0≤b.2-a.2 by omega) (Int.le_of_lt s2)
  rcases Int.lt_or_le 0 (aI a b v) with t2|t2
  ·rcases Int.lt_or_le (aI a b u) 0 with t1|t1
   ·exact ms ⟨.inr ⟨t1,t2⟩,.inl ⟨s1,s2⟩⟩
   ·have c1:=Int.mul_nonneg (show 0≤v.2-a.2 by omega) t1
    have c2:=Int.mul_pos (show 0<a.2-u.2 by omega) t2
    omega
  ·have t1:aI a b u<0:=by omega
   have c1:=Int.mul_nonpos_of_nonneg_of_nonpos (show 0≤v.2-b.2 by omega) (Int.le_of_lt t1)
   have c2:=Int.mul_nonpos_of_nonneg_of_nonpos (show 0≤b.2-u.2 by omega) t2
   have g1:b.2-a.2=0:=Classical.byContradiction fun h=>by
    have:=Int.mul_neg_of_pos_of_neg (show 0<b.2-a.2 by omega) s2
    omega
   have g2:v.2-b.2=0:=Classical.byContradiction fun h=>by
    have:=Int.mul_neg_of_pos_of_neg (show 0<v.2-b.2 by omega) t1
    omega
   exact flat (by omega) (by omega) (.inr ⟨s1,s2⟩)
theorem UQ {a b u v:Pt} (huv:u.2≤v.2) (hab:a.2≤b.2) (hm:bO a b u v=false):(hit a b u ^^ hit a b v)=(dr u v a ^^ dr u v b):=by
 have dn:∀ q:Pt,(decide (b.2≤q.2)&&decide (q.2<a.2)&&decide (aI a b q<0))=false:=fun q=>by
  rw[Bool.eq_false_iff];intro h;simp only[Bool.and_eq_true,decide_eq_true_eq] at h;omega
 unfold hit dr
 rw[dn u,dn v,Bool.or_false,Bool.or_false]
 rcases Int.lt_or_le u.2 b.2 with hb|hb
 ·rcases Int.lt_or_le v.2 a.2 with ha|ha
  ·simp[show ¬ a.2≤u.2 by omega,show ¬ a.2≤v.2 by omega,show ¬ b.2≤v.2 by omega]
  ·rcases Int.lt_or_le u.2 a.2 with ha2|ha2
   ·rcases Int.lt_or_le v.2 b.2 with hb2|hb2
    ·have:=AZ4 hm ha2 ha hb2
     simp[show ¬ a.2≤u.2 by omega,ha,hb2,show ¬ b.2≤v.2 by omega,ha2,this]
    ·have:=A3F hm ha2 hab hb2
     simp[show ¬ a.2≤u.2 by omega,ha,show ¬ v.2<b.2 by omega,hb2,ha2,hb,this]
   ·rcases Int.lt_or_le v.2 b.2 with hb2|hb2
    ·have:=AIB huv hm ha2 hb2
     simp[ha2,ha,hb,hb2,show ¬ b.2≤v.2 by omega,show ¬ u.2<a.2 by omega,this]
    ·have:=A3E hm ha2 hb hb2
     simp[ha2,ha,hb,hb2,show ¬ v.2<b.2 by omega,show ¬ u.2<a.2 by omega,this]
 ·simp[show ¬ u.2<b.2 by omega,show ¬ v.2<b.2 by omega,show ¬ u.2<a.2 by omega]
end Go.Pv
namespace Go.Pv
theorem AW2 (a b q:Pt):LM b a q=LM a b q:=by unfold LM;rw[Int.min_comm b.1,Int.max_comm b.1,Int.min_comm b.2,Int.max_comm b.2]
theorem LW (a b q:Pt):iP b a q=iP a b q:=by
 unfold iP;rw[AW2,gC a b q]
 congr 1
 exact decide_eq_decide.2 (by omega)
theorem AQG (n:Int):sW (-n) = - sW n:=by unfold sW;split<;>split<;>(try split)<;>omega
theorem IV (a b u v:Pt):bO b a u v=bO a b u v:=by
 unfold bO
 rw[LW a b u,LW a b v,gC a b u,gC a b v,AQG,AQG,Int.neg_mul_neg,Int.mul_comm (sW (aI u v b))]
 cases iP a b u<;>cases iP a b v<;>cases iP u v a<;>cases iP u v b<;>rfl
theorem Q9 (a b u v:Pt):bO a b v u=bO a b u v:=by rw[mF a b v u,IV,mF u v a b]
theorem PX {a b u v:Pt} (huv:u.2≤v.2) (hm:bO a b u v=false):(hit a b u ^^ hit a b v)=(dr u v a ^^ dr u v b):=by
 rcases Int.le_total a.2 b.2 with h|h
 ·exact UQ huv h hm
 ·rw[AHJ a b u,AHJ a b v,Bool.xor_comm (dr u v a)]
  exact UQ huv h (by rw[IV];exact hm)
def fE:Nat→(Nat→Bool)→Bool
 | 0,_=>false
 | n+1,f=>fE n f ^^ f n
theorem hH {f g:Nat→Bool}:∀ {n:Nat},(∀ i,i<n→f i=g i)→fE n f=fE n g
 | 0,_=>rfl
 | n+1,h=>by rw[fE,fE,hH fun i hi=>h i (by omega),h n (by omega)]
theorem nS (f g:Nat→Bool):∀ n:Nat,fE n (fun i=>f i ^^ g i)=(fE n f ^^ fE n g)
 | 0=>rfl
 | n+1=>by
  rw[fE,fE,fE,nS f g n]
  cases fE n f<;>cases fE n g<;>cases f n<;>cases g n<;>rfl
theorem SS (f:Nat→Bool):∀ n:Nat,fE (n+1) f=(f 0 ^^ fE n fun i=>f (i+1))
 | 0=>by simp[fE]
 | n+1=>by
  rw[fE,SS f n,fE]
  cases f 0<;>cases f (n+1)<;>cases fE n (fun i=>f (i+1))<;>rfl
theorem A0X (d:Nat→Bool) (n:Nat):fE n (fun i=>d ((i+1) % n))=fE n d:=by
 cases n with
 | zero=>rfl
 | succ m =>
  rw[SS d m,fE,Nat.mod_self]
  rw[hH (g:=fun i=>d (i+1)) fun i hi=>by rw[Nat.mod_eq_of_lt (by omega)]]
  cases d 0<;>cases fE m (fun i=>d (i+1))<;>rfl
theorem uN (d:Nat→Bool) (n:Nat):fE n (fun i=>d i ^^ d ((i+1) % n))=false:=by
 rw[nS,A0X];cases fE n d<;>rfl
def pt (p:List Pt) (i:Nat):Pt:=p.getD i (0,0)
def nx (p:List Pt) (i:Nat):Pt:=pt p ((i+1) % p.length)
def fH (p:List Pt) (q:Pt):Bool:=fE p.length fun i=>hit (pt p i) (nx p i) q
theorem KV {p:List Pt} {u v:Pt} (huv:u.2≤v.2) (h:∀ i,i<p.length→bO (pt p i) (nx p i) u v=false):fH p u=fH p v:=by
 have e:(fH p u ^^ fH p v)=false:=by
  unfold fH
  rw[←nS,hH fun i hi=>PX huv (h i hi)]
  exact uN (fun i=>dr u v (pt p i)) p.length
 revert e
 cases fH p u<;>cases fH p v<;>simp
theorem CD {p:List Pt} {u v:Pt} (h:∀ i,i<p.length→bO (pt p i) (nx p i) u v=false):fH p u=fH p v:=by
 rcases Int.le_total u.2 v.2 with huv|huv
 ·exact KV huv h
 ·exact (KV huv fun i hi=>by rw[Q9];exact h i hi).symm
end Go.Pv
namespace Go.Pv
open Go Go.Proofs
instance A87 (q:Pt):Decidable (bS q):=by unfold bS;infer_instance
theorem cL {a b:Bool} (h:a=b):T.v (.bool a)=T.v (.bool b):=by rw[h]
theorem sF {a b:Int} (h:a=b):T.v (.int .i64 a)=T.v (.int .i64 b):=by rw[h]
def xP {α:Type} (a b c:Pt) (r:α):Option α:=match decide (bS a∧bS b∧bS c) with
 | true=>some r
 | false=>none
theorem pP {α:Type} {a b c:Pt} {t r:α} (h:xP a b c t=some r):bS a∧bS b∧bS c∧r=t:=by
 unfold xP at h;split at h
 ·rename_i hc
  cases h
  obtain ⟨h1,h2,h3⟩:=of_decide_eq_true hc
  exact ⟨h1,h2,h3,rfl⟩
 ·cases h
theorem pQ {α:Type} {a b c:Pt} (t:α) (ha:bS a) (hb:bS b) (hc:bS c):xP a b c t=some t:=by unfold xP;rw[decide_eq_true ⟨ha,hb,hc⟩]
theorem wC {a b c:Pt} (ha:bS a) (hb:bS b) (hc:bS c):IntKind.i64.wrap (IntKind.i64.wrap (IntKind.i64.wrap (b.1-a.1)*IntKind.i64.wrap (c.2-a.2))-IntKind.i64.wrap (IntKind.i64.wrap (b.2-a.2)*IntKind.i64.wrap (c.1-a.1)))=aI a b c:=by
 have h:=AXC ha hb hc
 unfold bS at ha hb hc
 rw[aQ (b.1-a.1) (by omega) (by omega),aQ (c.2-a.2) (by omega) (by omega),aQ (b.2-a.2) (by omega) (by omega),aQ (c.1-a.1) (by omega) (by omega),
  aQ ((b.1-a.1)*(c.2-a.2)) (by omega) (by omega),aQ ((b.2-a.2)*(c.1-a.1)) (by omega) (by omega),aQ _ (by omega) (by omega)]
 rfl
theorem nR (m n:Int):IntKind.i64.wrap (sW m*sW n)=sW m*sW n:=by
 have h:=CI (A0G m) (A0G n) (by omega) (by omega)
 exact aQ _ (by omega) (by omega)
theorem xO (a b:Int):(if b<a then b else a)=min a b:=by omega
theorem xL (a b:Int):(if a<b then b else a)=max a b:=by omega
noncomputable def NC:Env:=Env.of []
def AEC:FuncId→Hint:=fun _=>aT
theorem AJ0:aE Tryz.prog NC:=aE.nil _
def OM (a0:aJ) (a1:aJ) (a2:aJ) (R:T→Prop):Prop :=
 R
 (T.v
 (Value.int IntKind.i64
 (IntKind.i64.wrap
 (IntKind.i64.wrap (IntKind.i64.wrap (a1.1-a0.1)*IntKind.i64.wrap (a2.2-a0.2)) -
 IntKind.i64.wrap (IntKind.i64.wrap (a1.2-a0.2)*IntKind.i64.wrap (a2.1-a0.1))))))
theorem AC4 ( a0 a1 a2 R):bA aW Tryz.prog NC AEC 8 171 [aC true aA a0,aC true aA a1,aC true aA a2] R=OM a0 a1 a2 R:=by kernel_rfl
abbrev FM:Sh:=[(true,aA),(true,aA),(true,aA)]
def JP (x:aJ×aJ×aJ):Option T:=xP x.1 x.2.1 x.2.2 (T.v (Value.int .i64 (aI x.1 x.2.1 x.2.2)))
noncomputable def dP:List T→Option (T):=gS FM JP
theorem AGT {a0 a1 a2}:dP [aC true aA a0,aC true aA a1,aC true aA a2]=JP (a0,a1,a2):=a6 (s:=FM) rfl (a0,a1,a2) rfl
theorem AUB (h:∀ a0 a1 a2 r,JP (a0,a1,a2)=some r→bY FM (a0,a1,a2)→OM a0 a1 a2 (fun y=>y=r)):aK Tryz.prog 171 dP :=
 aP (E:=NC) (Hs:=AEC) AJ0 aU aV (aL rfl) 8 ⟨_,_,Tryz.func171,rfl⟩ rfl fun x r h1 h2=>by
  obtain ⟨a0,a1,a2⟩:=x
  rw[show Sh.bK FM (a0,a1,a2)=[aC true aA a0,aC true aA a1,aC true aA a2] from rfl,AC4]
  exact h a0 a1 a2 r h1 h2
theorem yT:aK Tryz.prog 171 dP:=AUB fun a b c r h hb=>by
 obtain ⟨h1,h2,h3,rfl⟩:=pP h
 unfold OM
 exact sF (wC h1 h2 h3)
theorem iY {a b c:Pt} (h1:bS a) (h2:bS b) (h3:bS c):dP [aC true aA a,aC true aA b,aC true aA c]=some (Sh.enc [(false,.int .i64)] (aI a b c)):=(AGT ..).trans (pQ _ h1 h2 h3)
noncomputable def NM:Env:=Env.of []
def AEL:FuncId→Hint:=fun _=>aT
theorem AJ9:aE Tryz.prog NM:=aE.nil _
def OV (a0:aJ) (a1:aJ) (a2:aJ) (R:T→Prop):Prop :=
 R
 (T.v
 (Value.int IntKind.i64
 (IntKind.i64.wrap
 (IntKind.i64.wrap (IntKind.i64.wrap (a1.1-a0.1)*IntKind.i64.wrap (a2.2-a0.2)) -
 IntKind.i64.wrap (IntKind.i64.wrap (a1.2-a0.2)*IntKind.i64.wrap (a2.1-a0.1))))))
theorem ADD ( a0 a1 a2 R):bA aW Tryz.prog NM AEL 8 174 [aC true aA a0,aC true aA a1,aC true aA a2] R=OV a0 a1 a2 R:=by kernel_rfl
abbrev FW:Sh:=[(true,aA),(true,aA),(true,aA)]
def JW (x:aJ×aJ×aJ):Option T:=xP x.1 x.2.1 x.2.2 (T.v (Value.int .i64 (aI x.1 x.2.1 x.2.2)))
noncomputable def jX:List T→Option (T):=gS FW JW
theorem AG5 {a0 a1 a2}:jX [aC true aA a0,aC true aA a1,aC true aA a2]=JW (a0,a1,a2):=a6 (s:=FW) rfl (a0,a1,a2) rfl
theorem AUK (h:∀ a0 a1 a2 r,JW (a0,a1,a2)=some r→bY FW (a0,a1,a2)→OV a0 a1 a2 (fun y=>y=r)):aK Tryz.prog 174 jX :=
 aP (E:=NM) (Hs:=AEL) AJ9 aU aV (aL rfl) 8 ⟨_,_,Tryz.func174,rfl⟩ rfl fun x r h1 h2=>by
  obtain ⟨a0,a1,a2⟩:=x
  rw[show Sh.bK FW (a0,a1,a2)=[aC true aA a0,aC true aA a1,aC true aA a2] from rfl,ADD]
  exact h a0 a1 a2 r h1 h2
theorem ASW:aK Tryz.prog 174 jX:=AUK fun a b c r h hb=>by
 obtain ⟨h1,h2,h3,rfl⟩:=pP h
 unfold OV
 exact sF (wC h1 h2 h3)
theorem rR {a b c:Pt} (h1:bS a) (h2:bS b) (h3:bS c):jX [aC true aA a,aC true aA b,aC true aA c]=some (Sh.enc [(false,.int .i64)] (aI a b c)):=(AG5 ..).trans (pQ _ h1 h2 h3)
noncomputable def NR:Env:=Env.of []
def AEQ:FuncId→Hint:=fun _=>aT
theorem AKE:aE Tryz.prog NR:=aE.nil _
def O0 (a0:aJ) (a1:aJ) (a2:aJ) (R:T→Prop):Prop :=
 R
 (T.v
 (Value.int IntKind.i64
 (IntKind.i64.wrap
 (IntKind.i64.wrap (IntKind.i64.wrap (a1.1-a0.1)*IntKind.i64.wrap (a2.2-a0.2)) -
 IntKind.i64.wrap (IntKind.i64.wrap (a1.2-a0.2)*IntKind.i64.wrap (a2.1-a0.1))))))
theorem ADI ( a0 a1 a2 R):bA aW Tryz.prog NR AEQ 8 164 [aC true aA a0,aC true aA a1,aC true aA a2] R=O0 a0 a1 a2 R:=by kernel_rfl
abbrev FZ:Sh:=[(true,aA),(true,aA),(true,aA)]
def J1 (x:aJ×aJ×aJ):Option T:=xP x.1 x.2.1 x.2.2 (T.v (Value.int .i64 (aI x.1 x.2.1 x.2.2)))
noncomputable def dG:List T→Option (T):=gS FZ J1
theorem AHG {a0 a1 a2}:dG [aC true aA a0,aC true aA a1,aC true aA a2]=J1 (a0,a1,a2):=a6 (s:=FZ) rfl (a0,a1,a2) rfl
theorem AUP (h:∀ a0 a1 a2 r,J1 (a0,a1,a2)=some r→bY FZ (a0,a1,a2)→O0 a0 a1 a2 (fun y=>y=r)):aK Tryz.prog 164 dG :=
 aP (E:=NR) (Hs:=AEQ) AKE aU aV (aL rfl) 8 ⟨_,_,Tryz.func164,rfl⟩ rfl fun x r h1 h2=>by
  obtain ⟨a0,a1,a2⟩:=x
  rw[show Sh.bK FZ (a0,a1,a2)=[aC true aA a0,aC true aA a1,aC true aA a2] from rfl,ADI]
  exact h a0 a1 a2 r h1 h2
theorem IC:aK Tryz.prog 164 dG:=AUP fun a b c r h hb=>by
 obtain ⟨h1,h2,h3,rfl⟩:=pP h
 unfold O0
 exact sF (wC h1 h2 h3)
theorem kM {a b c:Pt} (h1:bS a) (h2:bS b) (h3:bS c):dG [aC true aA a,aC true aA b,aC true aA c]=some (Sh.enc [(false,.int .i64)] (aI a b c)):=(AHG ..).trans (pQ _ h1 h2 h3)
noncomputable def WY:Env:=Env.of []
def AO4:FuncId→Hint:=fun _=>aT
theorem AQ8:aE Tryz.prog WY:=aE.nil _
def YA (a0:Int) (R:T→Prop):Prop :=
 aB (!decide (a0=a0)) (R (T.v (.int .i64 (-1))))
 (aB (decide (a0<0)) (R (T.v (.int .i64 (-1))))
 (aB (decide (0<a0)) (R (T.v (.int .i64 1)))
 (R (T.v (.int .i64 0)))))
theorem AK0 ( a0 R):bA aW Tryz.prog WY AO4 8 185 [aC false (Sy.int IntKind.i64) a0] R=YA a0 R:=by kernel_rfl
abbrev MC:Sh:=[(false,(Sy.int IntKind.i64))]
def SG (n:Int):Option T:=some (T.v (Value.int .i64 (sW n)))
noncomputable def mQ:List T→Option (T):=gS MC SG
theorem AMR {a0}:mQ [T.v (.int .i64 a0)]=SG (a0):=a6 (s:=MC) rfl (a0) rfl
theorem AZV (h:∀ a0 r,SG (a0)=some r→bY MC (a0)→YA a0 (fun y=>y=r)):aK Tryz.prog 185 mQ :=
 aP (E:=WY) (Hs:=AO4) AQ8 aU aV (aL rfl) 8 ⟨_,_,Tryz.func185,rfl⟩ rfl fun x r h1 h2=>by
  let a0:=x
  rw[show Sh.bK MC (a0)=[aC false (Sy.int IntKind.i64) a0] from rfl,AK0]
  exact h a0 r h1 h2
theorem vA (n:Int):mQ [T.v (.int .i64 n)]=some (Sh.enc [(false,.int .i64)] (sW n)):=AMR ..
noncomputable def NP:Env:=Env.of []
def AEO:FuncId→Hint:=fun _=>aT
theorem AKC:aE Tryz.prog NP:=aE.nil _
def OY (a0:Int) (R:T→Prop):Prop :=
 aB (decide (a0<0)) (R (T.v (.int .i64 (-1))))
 (aB (decide (0<a0)) (R (T.v (.int .i64 1)))
 (R (T.v (.int .i64 0))))
theorem ADG ( a0 R):bA aW Tryz.prog NP AEO 8 187 [aC false (Sy.int IntKind.i64) a0] R=OY a0 R:=by kernel_rfl
abbrev FY:Sh:=[(false,(Sy.int IntKind.i64))]
def JZ (n:Int):Option T:=some (T.v (Value.int .i64 (sW n)))
noncomputable def jZ:List T→Option (T):=gS FY JZ
theorem AHD {a0}:jZ [T.v (.int .i64 a0)]=JZ (a0):=a6 (s:=FY) rfl (a0) rfl
theorem AUN (h:∀ a0 r,JZ (a0)=some r→bY FY (a0)→OY a0 (fun y=>y=r)):aK Tryz.prog 187 jZ :=
 aP (E:=NP) (Hs:=AEO) AKC aU aV (aL rfl) 8 ⟨_,_,Tryz.func187,rfl⟩ rfl fun x r h1 h2=>by
  let a0:=x
  rw[show Sh.bK FY (a0)=[aC false (Sy.int IntKind.i64) a0] from rfl,ADG]
  exact h a0 r h1 h2
theorem rS (n:Int):jZ [T.v (.int .i64 n)]=some (Sh.enc [(false,.int .i64)] (sW n)):=AHD ..
noncomputable def WZ:Env:=Env.of []
def AO5:FuncId→Hint:=fun _=>aT
theorem AQ9:aE Tryz.prog WZ:=aE.nil _
def YE (a0:Int) (R:T→Prop):Prop :=
 R (T.v (.int .i64 (if 1<if a0 < -1 then -1 else a0 then 1 else if a0 < -1 then -1 else a0)))
theorem AK1 ( a0 R):bA aW Tryz.prog WZ AO5 8 173 [aC false (Sy.int IntKind.i64) a0] R=YE a0 R:=by kernel_rfl
abbrev MD:Sh:=[(false,(Sy.int IntKind.i64))]
def SH (n:Int):Option T:=some (T.v (Value.int .i64 (sW n)))
noncomputable def mR:List T→Option (T):=gS MD SH
theorem AMS {a0}:mR [T.v (.int .i64 a0)]=SH (a0):=a6 (s:=MD) rfl (a0) rfl
theorem AZW (h:∀ a0 r,SH (a0)=some r→bY MD (a0)→YE a0 (fun y=>y=r)):aK Tryz.prog 173 mR :=
 aP (E:=WZ) (Hs:=AO5) AQ9 aU aV (aL rfl) 8 ⟨_,_,Tryz.func173,rfl⟩ rfl fun x r h1 h2=>by
  let a0:=x
  rw[show Sh.bK MD (a0)=[aC false (Sy.int IntKind.i64) a0] from rfl,AK1]
  exact h a0 r h1 h2
theorem vB (n:Int):mR [T.v (.int .i64 n)]=some (Sh.enc [(false,.int .i64)] (sW n)):=AMS ..
theorem AX0:aK Tryz.prog 185 mQ:=AZV fun n r h hb=>by
 cases h
 unfold YA
 refine gT (fun h=>absurd rfl h) fun _=>?_
 exact bJ (fun h=>sF (by unfold sW;rw[if_pos h])) fun h=>bJ (fun h2=>sF (by unfold sW;rw[if_neg h,if_pos h2])) fun h2=>sF (by unfold sW;rw[if_neg h,if_neg h2])
theorem ASY:aK Tryz.prog 187 jZ:=AUN fun n r h hb=>by
 cases h
 unfold OY
 exact bJ (fun h=>sF (by unfold sW;rw[if_pos h])) fun h=>bJ (fun h2=>sF (by unfold sW;rw[if_neg h,if_pos h2])) fun h2=>sF (by unfold sW;rw[if_neg h,if_neg h2])
theorem AX1:aK Tryz.prog 173 mR:=AZW fun n r h hb=>by
 cases h
 unfold YE
 refine sF ?_
 unfold sW
 omega
noncomputable def GP:Env:=Env.of []
def T9:FuncId→Hint:=fun _=>aT
theorem AB3:aE Tryz.prog GP:=aE.nil _
def HI (a0:aJ) (a1:aJ) (a2:aJ) (R:T→Prop):Prop :=
 aB (decide ((if a1.1<a0.1 then a1.1 else a0.1)≤a2.1))
 (aB (decide (a2.1≤if a0.1<a1.1 then a1.1 else a0.1))
 (aB (decide ((if a1.2<a0.2 then a1.2 else a0.2)≤a2.2))
 (R (T.v (.bool (decide (a2.2≤if a0.2<a1.2 then a1.2 else a0.2)))))
 (R (T.v (.bool false))))
 (R (T.v (.bool false))))
 (R (T.v (.bool false)))
theorem YD ( a0 a1 a2 R):bA aW Tryz.prog GP T9 8 186 [aC true aA a0,aC true aA a1,aC true aA a2] R=HI a0 a1 a2 R:=by kernel_rfl
abbrev zZ:Sh:=[(true,aA),(true,aA),(true,aA)]
def C3 (x:aJ×aJ×aJ):Option T:=some (T.v (.bool (LM x.1 x.2.1 x.2.2)))
noncomputable def oT:List T→Option (T):=gS zZ C3
theorem ZW {a0 a1 a2}:oT [aC true aA a0,aC true aA a1,aC true aA a2]=C3 (a0,a1,a2):=a6 (s:=zZ) rfl (a0,a1,a2) rfl
theorem ANR (h:∀ a0 a1 a2 r,C3 (a0,a1,a2)=some r→bY zZ (a0,a1,a2)→HI a0 a1 a2 (fun y=>y=r)):aK Tryz.prog 186 oT :=
 aP (E:=GP) (Hs:=T9) AB3 aU aV (aL rfl) 8 ⟨_,_,Tryz.func186,rfl⟩ rfl fun x r h1 h2=>by
  obtain ⟨a0,a1,a2⟩:=x
  rw[show Sh.bK zZ (a0,a1,a2)=[aC true aA a0,aC true aA a1,aC true aA a2] from rfl,YD]
  exact h a0 a1 a2 r h1 h2
theorem AL4:aK Tryz.prog 186 oT:=ANR fun a b c r h hb=>by
 cases h
 unfold HI
 rw[xO,xO,xL,xL]
 refine bJ (fun h1=>bJ (fun h2=>bJ (fun h3=>cL ?_) fun h3=>cL ?_) fun h2=>cL ?_) fun h1=>cL ?_
 all_goals simp[LM,h1]
 all_goals simp[h2]
 all_goals simp[h3]
noncomputable def AVQ:Env:=Env.of []
def A35:FuncId→Hint:=fun _=>aT
theorem A1C:aE Tryz.prog AVQ:=aE.nil _
def AWL (a0:aJ) (a1:aJ) (a2:aJ) (R:T→Prop):Prop :=
 aB (decide ((if a1.1<a0.1 then a1.1 else a0.1)≤a2.1))
 (aB (decide (a2.1≤if a0.1<a1.1 then a1.1 else a0.1))
 (aB (decide ((if a1.2<a0.2 then a1.2 else a0.2)≤a2.2))
 (R (T.v (.bool (decide (a2.2≤if a0.2<a1.2 then a1.2 else a0.2)))))
 (R (T.v (.bool false))))
 (R (T.v (.bool false))))
 (R (T.v (.bool false)))
theorem AWM ( a0 a1 a2 R):bA aW Tryz.prog AVQ A35 8 175 [aC true aA a0,aC true aA a1,aC true aA a2] R=AWL a0 a1 a2 R:=by kernel_rfl
abbrev AQD:Sh:=[(true,aA),(true,aA),(true,aA)]
abbrev AP9:Sh:=[(false,Sy.bool)]
theorem AN4 (y:Sh.den AP9) (K:Sh.den AP9→Prop):aG AP9 (some (Sh.enc AP9 y)) K=K y:=lV rfl y K
def AA8 (x:aJ×aJ×aJ):Option T:=some (T.v (.bool (LM x.1 x.2.1 x.2.2)))
noncomputable def dW:List T→Option (T):=gS AQD AA8
theorem AYF {a0 a1 a2}:dW [aC true aA a0,aC true aA a1,aC true aA a2]=AA8 (a0,a1,a2):=a6 (s:=AQD) rfl (a0,a1,a2) rfl
theorem A6R (h:∀ a0 a1 a2 r,AA8 (a0,a1,a2)=some r→bY AQD (a0,a1,a2)→AWL a0 a1 a2 (fun y=>y=r)):aK Tryz.prog 175 dW :=
 aP (E:=AVQ) (Hs:=A35) A1C aU aV (aL rfl) 8 ⟨_,_,Tryz.func175,rfl⟩ rfl fun x r h1 h2=>by
  obtain ⟨a0,a1,a2⟩:=x
  rw[show Sh.bK AQD (a0,a1,a2)=[aC true aA a0,aC true aA a1,aC true aA a2] from rfl,AWM]
  exact h a0 a1 a2 r h1 h2
theorem A5N:aK Tryz.prog 175 dW:=A6R fun a b c r h hb=>by
 cases h
 unfold AWL
 rw[xO,xO,xL,xL]
 refine bJ (fun h1=>bJ (fun h2=>bJ (fun h3=>cL ?_) fun h3=>cL ?_) fun h2=>cL ?_) fun h1=>cL ?_
 all_goals simp[LM,h1]
 all_goals simp[h2]
 all_goals simp[h3]
noncomputable def AVK:Env:=Env.of [(171,.pure dP),(186,.pure oT)]
def A3Z:FuncId→Hint:=fun _=>aT
theorem A06:aE Tryz.prog AVK:=aE.cons (x:=.pure dP) yT (aE.cons (x:=.pure oT) AL4 (aE.nil _))
def AV9 (a0:aJ) (a1:aJ) (a2:aJ) (R:T→Prop):Prop :=
 aG [(false,Sy.int IntKind.i64)]
 (dP [aC true aA a0,aC true aA a1,aC true aA a2])
 fun (y0:Int) =>
 aB (decide (y0=0))
 (aG [(false,Sy.bool)]
 (oT
 [aC true aA a0,aC true aA a1,aC true aA a2])
 fun (y1:Bool)=>R (T.v (.bool y1)))
 (R (T.v (.bool false)))
theorem AWA ( a0 a1 a2 R):bA aW Tryz.prog AVK A3Z 8 176 [aC true aA a0,aC true aA a1,aC true aA a2] R=AV9 a0 a1 a2 R:=by kernel_rfl
abbrev AQC:Sh:=[(true,aA),(true,aA),(true,aA)]
def AOF (x:aJ×aJ×aJ):Option T:=xP x.1 x.2.1 x.2.2 (T.v (.bool (iP x.1 x.2.1 x.2.2)))
noncomputable def tT:List T→Option (T):=gS AQC AOF
theorem AX8 {a0 a1 a2}:tT [aC true aA a0,aC true aA a1,aC true aA a2]=AOF (a0,a1,a2):=a6 (s:=AQC) rfl (a0,a1,a2) rfl
theorem A6L (h:∀ a0 a1 a2 r,AOF (a0,a1,a2)=some r→bY AQC (a0,a1,a2)→AV9 a0 a1 a2 (fun y=>y=r)):aK Tryz.prog 176 tT :=
 aP (E:=AVK) (Hs:=A3Z) A06 aU aV (aL rfl) 8 ⟨_,_,Tryz.func176,rfl⟩ rfl fun x r h1 h2=>by
  obtain ⟨a0,a1,a2⟩:=x
  rw[show Sh.bK AQC (a0,a1,a2)=[aC true aA a0,aC true aA a1,aC true aA a2] from rfl,AWA]
  exact h a0 a1 a2 r h1 h2
theorem AXZ:aK Tryz.prog 176 tT:=A6L fun a b c r h hb=>by
 obtain ⟨h1,h2,h3,rfl⟩:=pP h
 unfold AV9
 refine aD (s:=[(false,.int .i64)]) (iY h1 h2 h3) ?_
 refine bJ (fun h=>?_) fun h=>cL (by unfold iP;rw[decide_eq_false h];rfl)
 refine aD (s:=[(false,.bool)]) (y:=LM a b c) (ZW ..) ?_
 exact cL (by unfold iP;rw[decide_eq_true h];rfl)
theorem xE {a b c:Pt} (h1:bS a) (h2:bS b) (h3:bS c):tT [aC true aA a,aC true aA b,aC true aA c]=some (Sh.enc [(false,.bool)] (iP a b c)):=(AX8 ..).trans (pQ _ h1 h2 h3)
def K2 {α:Type} (a b c d:Pt) (r:α):Option α:=match decide (bS a∧bS b∧bS c∧bS d) with
 | true=>some r
 | false=>none
theorem EJ {α:Type} {a b c d:Pt} {t r:α} (h:K2 a b c d t=some r):bS a∧bS b∧bS c∧bS d∧r=t:=by
 unfold K2 at h;split at h
 ·rename_i hc
  cases h
  obtain ⟨h1,h2,h3,h4⟩:=of_decide_eq_true hc
  exact ⟨h1,h2,h3,h4,rfl⟩
 ·cases h
theorem EK {α:Type} {a b c d:Pt} (t:α) (ha:bS a) (hb:bS b) (hc:bS c) (hd:bS d):K2 a b c d t=some t:=by unfold K2;rw[decide_eq_true ⟨ha,hb,hc,hd⟩]
noncomputable def WX:Env:=Env.of [(171,.pure dP),(176,.pure tT),(185,.pure mQ)]
def AO3:FuncId→Hint:=fun _=>aT
theorem AQ7:aE Tryz.prog WX:=aE.cons (x:=.pure dP) yT (aE.cons (x:=.pure tT) AXZ (aE.cons (x:=.pure mQ) AX0 (aE.nil _)))
def XZ (a0:aJ) (a1:aJ) (a2:aJ) (a3:aJ) (R:T→Prop):Prop :=
 aG [(false,Sy.bool)]
 (tT [aC true aA a0,aC true aA a1,aC true aA a2])
 fun (y0:Bool) =>
 aB y0 (R (T.v (.bool true)))
 (aG [(false,Sy.bool)]
 (tT [aC true aA a0,aC true aA a1,aC true aA a3])
 fun (y1:Bool) =>
 aB y1 (R (T.v (.bool true)))
 (aG [(false,Sy.bool)]
 (tT
 [aC true aA a2,aC true aA a3,aC true aA a0])
 fun (y2:Bool) =>
 aB y2 (R (T.v (.bool true)))
 (aG [(false,Sy.bool)]
 (tT
 [aC true aA a2,aC true aA a3,aC true aA a1])
 fun (y3:Bool) =>
 aB y3 (R (T.v (.bool true)))
 (aG [(false,Sy.int IntKind.i64)]
 (dP
 [aC true aA a0,aC true aA a1,aC true aA a2])
 fun (y4:Int) =>
 aG [(false,Sy.int IntKind.i64)]
 (mQ [T.v (.int .i64 y4)]) fun (y5:Int) =>
 aG [(false,Sy.int IntKind.i64)]
 (dP
 [aC true aA a0,aC true aA a1,
 aC true aA a3])
 fun (y6:Int) =>
 aG [(false,Sy.int IntKind.i64)]
 (mQ [T.v (.int .i64 y6)]) fun (y7:Int) =>
 aB (decide (IntKind.i64.wrap (y5*y7)<0))
 (aG [(false,Sy.int IntKind.i64)]
 (dP
 [aC true aA a2,aC true aA a3,
 aC true aA a0])
 fun (y8:Int) =>
 aG [(false,Sy.int IntKind.i64)]
 (mQ [T.v (.int .i64 y8)]) fun (y9:Int) =>
 aG [(false,Sy.int IntKind.i64)]
 (dP
 [aC true aA a2,aC true aA a3,
 aC true aA a1])
 fun (y10:Int) =>
 aG [(false,Sy.int IntKind.i64)]
 (mQ [T.v (.int .i64 y10)]) fun (y11:Int) =>
 R (T.v (.bool (decide (IntKind.i64.wrap (y9*y11)<0)))))
 (R (T.v (.bool false)))))))
theorem AKZ ( a0 a1 a2 a3 R):bA aW Tryz.prog WX AO3 8 172 [aC true aA a0,aC true aA a1,aC true aA a2,
 aC true aA a3] R=XZ a0 a1 a2 a3 R:=by kernel_rfl
abbrev MB:Sh:=[(true,aA),(true,aA),(true,aA),(true,aA)]
def SF (x:aJ×aJ×aJ×aJ):Option T:=K2 x.1 x.2.1 x.2.2.1 x.2.2.2 (T.v (.bool (bO x.1 x.2.1 x.2.2.1 x.2.2.2)))
noncomputable def oF:List T→Option (T):=gS MB SF
theorem AMP {a0 a1 a2 a3}:oF [aC true aA a0,aC true aA a1,aC true aA a2,
 aC true aA a3]=SF (a0,a1,a2,a3):=a6 (s:=MB) rfl (a0,a1,a2,a3) rfl
theorem AZU (h:∀ a0 a1 a2 a3 r,SF (a0,a1,a2,a3)=some r→bY MB (a0,a1,a2,a3)→XZ a0 a1 a2 a3 (fun y=>y=r)):aK Tryz.prog 172 oF :=
 aP (E:=WX) (Hs:=AO3) AQ7 aU aV (aL rfl) 8 ⟨_,_,Tryz.func172,rfl⟩ rfl fun x r h1 h2=>by
  obtain ⟨a0,a1,a2,a3⟩:=x
  rw[show Sh.bK MB (a0,a1,a2,a3)=[aC true aA a0,aC true aA a1,aC true aA a2,
 aC true aA a3] from rfl,AKZ]
  exact h a0 a1 a2 a3 r h1 h2
theorem AXY:aK Tryz.prog 172 oF:=AZU fun a b c d r h hb=>by
 obtain ⟨h1,h2,h3,h4,rfl⟩:=EJ h
 unfold XZ
 refine aD (s:=[(false,.bool)]) (xE h1 h2 h3) ?_
 refine tA (fun h=>cL (by unfold bO;rw[h];rfl)) fun k1=>?_
 refine aD (s:=[(false,.bool)]) (xE h1 h2 h4) ?_
 refine tA (fun h=>cL (by unfold bO;rw[h,k1];rfl)) fun k2=>?_
 refine aD (s:=[(false,.bool)]) (xE h3 h4 h1) ?_
 refine tA (fun h=>cL (by unfold bO;rw[h,k1,k2];rfl)) fun k3=>?_
 refine aD (s:=[(false,.bool)]) (xE h3 h4 h2) ?_
 refine tA (fun h=>cL (by unfold bO;rw[h,k1,k2,k3];rfl)) fun k4=>?_
 refine aD (s:=[(false,.int .i64)]) (iY h1 h2 h3) ?_
 refine aD (s:=[(false,.int .i64)]) (vA _) ?_
 refine aD (s:=[(false,.int .i64)]) (iY h1 h2 h4) ?_
 refine aD (s:=[(false,.int .i64)]) (vA _) ?_
 rw[nR]
 refine bJ (fun h=>?_) fun h=>cL (by unfold bO;rw[k1,k2,k3,k4,decide_eq_false h];rfl)
 refine aD (s:=[(false,.int .i64)]) (iY h3 h4 h1) ?_
 refine aD (s:=[(false,.int .i64)]) (vA _) ?_
 refine aD (s:=[(false,.int .i64)]) (iY h3 h4 h2) ?_
 refine aD (s:=[(false,.int .i64)]) (vA _) ?_
 rw[nR]
 exact cL (by unfold bO;rw[k1,k2,k3,k4,decide_eq_true h];rfl)
theorem AMQ {a b c d:Pt} (h1:bS a) (h2:bS b) (h3:bS c) (h4:bS d):oF [aC true aA a,aC true aA b,aC true aA c,aC true aA d]=some (Sh.enc [(false,.bool)] (bO a b c d)):=(AMP ..).trans (EK _ h1 h2 h3 h4)
noncomputable def AI8:Env:=Env.of []
def AWT:FuncId→Hint:=fun _=>aT
theorem AVX:aE Tryz.prog AI8:=aE.nil _
def AKX (a0:aJ) (R:T→Prop):Prop :=
 aB (decide (a0.1 < -32768)) (R (T.v (.bool true)))
 (aB (decide (32768<a0.1)) (R (T.v (.bool true)))
 (aB (decide (a0.2 < -32768)) (R (T.v (.bool true)))
 (R (T.v (.bool (decide (32768<a0.2)))))))
theorem ARG ( a0 R):bA aW Tryz.prog AI8 AWT 8 152 [aC true aA a0] R=AKX a0 R:=by kernel_rfl
abbrev AAY:Sh:=[(true,aA)]
def AA7 (q:aJ):Option T:=some (T.v (.bool (!decide (bS q))))
noncomputable def u9:List T→Option (T):=gS AAY AA7
theorem U8 {a0}:u9 [aC true aA a0]=AA7 (a0):=a6 (s:=AAY) rfl (a0) rfl
theorem A23 (h:∀ a0 r,AA7 (a0)=some r→bY AAY (a0)→AKX a0 (fun y=>y=r)):aK Tryz.prog 152 u9 :=
 aP (E:=AI8) (Hs:=AWT) AVX aU aV (aL rfl) 8 ⟨_,_,Tryz.func152,rfl⟩ rfl fun x r h1 h2=>by
  let a0:=x
  rw[show Sh.bK AAY (a0)=[aC true aA a0] from rfl,ARG]
  exact h a0 r h1 h2
theorem APK:aK Tryz.prog 152 u9:=A23 fun q r h hb=>by
 cases h
 unfold AKX
 have no:¬ bS q→true = !decide (bS q):=fun h=>by rw[decide_eq_false h];rfl
 refine bJ (fun h=>cL (no (by unfold bS;omega))) fun h1=>bJ (fun h=>cL (no (by unfold bS;omega))) fun h2=>bJ (fun h=>cL (no (by unfold bS;omega))) fun h3=>cL ?_
 by_cases h:bS q
 ·rw[decide_eq_true h,Bool.not_true]
  unfold bS at h
  exact decide_eq_false (by omega)
 ·rw[decide_eq_false h,Bool.not_false]
  unfold bS at h
  exact decide_eq_true (by omega)
theorem R1 {n:Int}:sW n=0↔n=0:=by
 unfold sW
 split
 ·omega
 ·split<;>omega
noncomputable def NO:Env:=Env.of [(174,.pure jX),(173,.pure mR),(175,.pure dW)]
def AEN:FuncId→Hint:=fun _=>aT
theorem AKB:aE Tryz.prog NO:=aE.cons (x:=.pure jX) ASW (aE.cons (x:=.pure mR) AX1 (aE.cons (x:=.pure dW) A5N (aE.nil _)))
def OX (a0:aJ) (a1:aJ) (a2:aJ) (a3:aJ) (R:T→Prop):Prop :=
 aG [(false,Sy.int IntKind.i64)]
 (jX [aC true aA a0,aC true aA a1,aC true aA a2])
 fun (y0:Int) =>
 aG [(false,Sy.int IntKind.i64)] (mR [T.v (.int .i64 y0)])
 fun (y1:Int) =>
 aG [(false,Sy.int IntKind.i64)]
 (jX
 [aC true aA a0,aC true aA a1,aC true aA a3])
 fun (y2:Int) =>
 aG [(false,Sy.int IntKind.i64)] (mR [T.v (.int .i64 y2)])
 fun (y3:Int) =>
 aG [(false,Sy.int IntKind.i64)]
 (jX
 [aC true aA a2,aC true aA a3,aC true aA a0])
 fun (y4:Int) =>
 aG [(false,Sy.int IntKind.i64)]
 (mR [T.v (.int .i64 y4)]) fun (y5:Int) =>
 aG [(false,Sy.int IntKind.i64)]
 (jX
 [aC true aA a2,aC true aA a3,aC true aA a1])
 fun (y6:Int) =>
 aG [(false,Sy.int IntKind.i64)]
 (mR [T.v (.int .i64 y6)]) fun (y7:Int) =>
 aB (decide (IntKind.i64.wrap (y1*y3)<0))
 (aB (decide (IntKind.i64.wrap (y5*y7)<0)) (R (T.v (.bool true)))
 (aB (decide (y1=0))
 (aG [(false,Sy.bool)]
 (dW
 [aC true aA a0,aC true aA a1,
 aC true aA a2])
 fun (y8:Bool) =>
 aB y8 (R (T.v (.bool true)))
 (aB (decide (y3=0))
 (aG [(false,Sy.bool)]
 (dW
 [aC true aA a0,aC true aA a1,
 aC true aA a3])
 fun (y9:Bool) =>
 aB y9 (R (T.v (.bool true)))
 (aB (decide (y5=0))
 (aG [(false,Sy.bool)]
 (dW
 [aC true aA a2,aC true aA a3,
 aC true aA a0])
 fun (y10:Bool) =>
 aB y10 (R (T.v (.bool true)))
 (aB (decide (y7=0))
 (aG [(false,Sy.bool)]
 (dW
 [aC true aA a2,aC true aA a3,
 aC true aA a1])
 fun (y11:Bool)=>R (T.v (.bool y11)))
 (R (T.v (.bool false)))))
 (aB (decide (y7=0))
 (aG [(false,Sy.bool)]
 (dW
 [aC true aA a2,aC true aA a3,
 aC true aA a1])
 fun (y12:Bool)=>R (T.v (.bool y12)))
 (R (T.v (.bool false))))))
 (aB (decide (y5=0))
 (aG [(false,Sy.bool)]
 (dW
 [aC true aA a2,aC true aA a3,
 aC true aA a0])
 fun (y13:Bool) =>
 aB y13 (R (T.v (.bool true)))
 (aB (decide (y7=0))
 (aG [(false,Sy.bool)]
 (dW
 [aC true aA a2,aC true aA a3,
 aC true aA a1])
 fun (y14:Bool)=>R (T.v (.bool y14)))
 (R (T.v (.bool false)))))
 (aB (decide (y7=0))
 (aG [(false,Sy.bool)]
 (dW
 [aC true aA a2,aC true aA a3,
 aC true aA a1])
 fun (y15:Bool)=>R (T.v (.bool y15)))
 (R (T.v (.bool false)))))))
 (aB (decide (y3=0))
 (aG [(false,Sy.bool)]
 (dW
 [aC true aA a0,aC true aA a1,
 aC true aA a3])
 fun (y16:Bool) =>
 aB y16 (R (T.v (.bool true)))
 (aB (decide (y5=0))
 (aG [(false,Sy.bool)]
 (dW
 [aC true aA a2,aC true aA a3,
 aC true aA a0])
 fun (y17:Bool) =>
 aB y17 (R (T.v (.bool true)))
 (aB (decide (y7=0))
 (aG [(false,Sy.bool)]
 (dW
 [aC true aA a2,aC true aA a3,
 aC true aA a1])
 fun (y18:Bool)=>R (T.v (.bool y18)))
 (R (T.v (.bool false)))))
 (aB (decide (y7=0))
 (aG [(false,Sy.bool)]
 (dW
 [aC true aA a2,aC true aA a3,
 aC true aA a1])
 fun (y19:Bool)=>R (T.v (.bool y19)))
 (R (T.v (.bool false))))))
 (aB (decide (y5=0))
 (aG [(false,Sy.bool)]
 (dW
 [aC true aA a2,aC true aA a3,
 aC true aA a0])
 fun (y20:Bool) =>
 aB y20 (R (T.v (.bool true)))
 (aB (decide (y7=0))
 (aG [(false,Sy.bool)]
 (dW
 [aC true aA a2,aC true aA a3,
 aC true aA a1])
 fun (y21:Bool)=>R (T.v (.bool y21)))
 (R (T.v (.bool false)))))
 (aB (decide (y7=0))
 (aG [(false,Sy.bool)]
 (dW
 [aC true aA a2,aC true aA a3,
 aC true aA a1])
 fun (y22:Bool)=>R (T.v (.bool y22)))
 (R (T.v (.bool false))))))))
 (aB (decide (y1=0))
 (aG [(false,Sy.bool)]
 (dW
 [aC true aA a0,aC true aA a1,
 aC true aA a2])
 fun (y23:Bool) =>
 aB y23 (R (T.v (.bool true)))
 (aB (decide (y3=0))
 (aG [(false,Sy.bool)]
 (dW
 [aC true aA a0,aC true aA a1,
 aC true aA a3])
 fun (y24:Bool) =>
 aB y24 (R (T.v (.bool true)))
 (aB (decide (y5=0))
 (aG [(false,Sy.bool)]
 (dW
 [aC true aA a2,aC true aA a3,
 aC true aA a0])
 fun (y25:Bool) =>
 aB y25 (R (T.v (.bool true)))
 (aB (decide (y7=0))
 (aG [(false,Sy.bool)]
 (dW
 [aC true aA a2,aC true aA a3,
 aC true aA a1])
 fun (y26:Bool)=>R (T.v (.bool y26)))
 (R (T.v (.bool false)))))
 (aB (decide (y7=0))
 (aG [(false,Sy.bool)]
 (dW
 [aC true aA a2,aC true aA a3,
 aC true aA a1])
 fun (y27:Bool)=>R (T.v (.bool y27)))
 (R (T.v (.bool false))))))
 (aB (decide (y5=0))
 (aG [(false,Sy.bool)]
 (dW
 [aC true aA a2,aC true aA a3,
 aC true aA a0])
 fun (y28:Bool) =>
 aB y28 (R (T.v (.bool true)))
 (aB (decide (y7=0))
 (aG [(false,Sy.bool)]
 (dW
 [aC true aA a2,aC true aA a3,
 aC true aA a1])
 fun (y29:Bool)=>R (T.v (.bool y29)))
 (R (T.v (.bool false)))))
 (aB (decide (y7=0))
 (aG [(false,Sy.bool)]
 (dW
 [aC true aA a2,aC true aA a3,
 aC true aA a1])
 fun (y30:Bool)=>R (T.v (.bool y30)))
 (R (T.v (.bool false)))))))
 (aB (decide (y3=0))
 (aG [(false,Sy.bool)]
 (dW
 [aC true aA a0,aC true aA a1,
 aC true aA a3])
 fun (y31:Bool) =>
 aB y31 (R (T.v (.bool true)))
 (aB (decide (y5=0))
 (aG [(false,Sy.bool)]
 (dW
 [aC true aA a2,aC true aA a3,
 aC true aA a0])
 fun (y32:Bool) =>
 aB y32 (R (T.v (.bool true)))
 (aB (decide (y7=0))
 (aG [(false,Sy.bool)]
 (dW
 [aC true aA a2,aC true aA a3,
 aC true aA a1])
 fun (y33:Bool)=>R (T.v (.bool y33)))
 (R (T.v (.bool false)))))
 (aB (decide (y7=0))
 (aG [(false,Sy.bool)]
 (dW
 [aC true aA a2,aC true aA a3,
 aC true aA a1])
 fun (y34:Bool)=>R (T.v (.bool y34)))
 (R (T.v (.bool false))))))
 (aB (decide (y5=0))
 (aG [(false,Sy.bool)]
 (dW
 [aC true aA a2,aC true aA a3,
 aC true aA a0])
 fun (y35:Bool) =>
 aB y35 (R (T.v (.bool true)))
 (aB (decide (y7=0))
 (aG [(false,Sy.bool)]
 (dW
 [aC true aA a2,aC true aA a3,
 aC true aA a1])
 fun (y36:Bool)=>R (T.v (.bool y36)))
 (R (T.v (.bool false)))))
 (aB (decide (y7=0))
 (aG [(false,Sy.bool)]
 (dW
 [aC true aA a2,aC true aA a3,
 aC true aA a1])
 fun (y37:Bool)=>R (T.v (.bool y37)))
 (R (T.v (.bool false)))))))
theorem ADF ( a0 a1 a2 a3 R):bA aW Tryz.prog NO AEN 8 156 [aC true aA a0,aC true aA a1,aC true aA a2,
 aC true aA a3] R=OX a0 a1 a2 a3 R:=by kernel_rfl
abbrev FX:Sh:=[(true,aA),(true,aA),(true,aA),(true,aA)]
def JY (x:aJ×aJ×aJ×aJ):Option T:=K2 x.1 x.2.1 x.2.2.1 x.2.2.2 (T.v (.bool (bO x.1 x.2.1 x.2.2.1 x.2.2.2)))
noncomputable def tW:List T→Option (T):=gS FX JY
theorem AHC {a0 a1 a2 a3}:tW [aC true aA a0,aC true aA a1,aC true aA a2,
 aC true aA a3]=JY (a0,a1,a2,a3):=a6 (s:=FX) rfl (a0,a1,a2,a3) rfl
theorem AUM (h:∀ a0 a1 a2 a3 r,JY (a0,a1,a2,a3)=some r→bY FX (a0,a1,a2,a3)→OX a0 a1 a2 a3 (fun y=>y=r)):aK Tryz.prog 156 tW :=
 aP (E:=NO) (Hs:=AEN) AKB aU aV (aL rfl) 8 ⟨_,_,Tryz.func156,rfl⟩ rfl fun x r h1 h2=>by
  obtain ⟨a0,a1,a2,a3⟩:=x
  rw[show Sh.bK FX (a0,a1,a2,a3)=[aC true aA a0,aC true aA a1,aC true aA a2,
 aC true aA a3] from rfl,ADF]
  exact h a0 a1 a2 a3 r h1 h2
theorem A0E (a b c:Pt) (K:Bool→Prop):aG [(false,Sy.bool)] (dW [aC true aA a,aC true aA b,aC true aA c]) K=K (LM a b c):=by
 rw[show dW [aC true aA a,aC true aA b,aC true aA c]=AA8 (a,b,c) from AYF ..]
 exact AN4 _ K
theorem ASX:aK Tryz.prog 156 tW:=AUM fun a b c d r h hb=>by
 obtain ⟨h1,h2,h3,h4,rfl⟩:=EJ h
 unfold OX
 refine aD (s:=[(false,.int .i64)]) (rR h1 h2 h3) ?_
 refine aD (s:=[(false,.int .i64)]) (vB _) ?_
 refine aD (s:=[(false,.int .i64)]) (rR h1 h2 h4) ?_
 refine aD (s:=[(false,.int .i64)]) (vB _) ?_
 refine aD (s:=[(false,.int .i64)]) (rR h3 h4 h1) ?_
 refine aD (s:=[(false,.int .i64)]) (vB _) ?_
 refine aD (s:=[(false,.int .i64)]) (rR h3 h4 h2) ?_
 refine aD (s:=[(false,.int .i64)]) (vB _) ?_
 rw[nR,nR]
 have e:∀ {n:Bool},bO a b c d=n→T.v (.bool n)=T.v (.bool (bO a b c d)):=fun h=>by rw[h]
 simp only[A0E]
 unfold bO at e
 unfold iP at e
 clear h hb
 repeat' first
  | refine bJ (fun h=>?_) (fun h=>?_)
  | refine tA (fun h=>?_) (fun h=>?_)
 all_goals (refine e ?_;clear e;simp only[R1] at *;simp[*,show sW 0=0 from rfl])
end Go.Pv
namespace Go.Pv
open Go Go.Proofs
theorem vN {p:List Pt} {i:Nat} (h:i<p.length):pt p i=p[i]:=by unfold pt;rw[List.getD_eq_getElem?_getD,List.getElem?_eq_getElem h];rfl
theorem bR {p:List aJ} {k:Nat} (h:k<p.length) (K:aJ→Prop):aO aA (List.map aA.enc p) (k:Int) K=K (pt p k):=by
 rw[aS (r:=aA) h,vN h]
theorem iO {i n c:Nat} (hn:n≤1000) (hi:i≤1000) (hc:c≤2):(IntKind.i64.wrap ((i:Int)+(c:Int))).tmod (n:Int)=(((i+c) % n:Nat):Int):=by
 rw[aQ _ (by omega) (by omega),Int.tmod_eq_emod_of_nonneg (by omega),Int.natCast_emod,Int.natCast_add]
def kY (a b c:Pt):Int:=(a.1-b.1)*(c.1-b.1)+(a.2-b.2)*(c.2-b.2)
def q9 (p:List Pt) (i k:Nat):Bool:=!(!decide ((k+1) % p.length=i)&&bO (pt p i) (nx p i) (pt p k) (nx p k))
def nG (p:List Pt) (i:Nat):Pt:=pt p ((i+2) % p.length)
def EL (p:List Pt) (i:Nat):Bool:=!decide (pt p i=nx p i)&&(!(decide (aI (pt p i) (nx p i) (nG p i)=0)&&decide (0<kY (pt p i) (nx p i) (nG p i)))&&(List.range p.length).all fun k=>decide (k<i+2)||q9 p i k)
def oA (p:List Pt):Bool:=(List.range p.length).all (EL p)
def gM (p:List Pt):Prop:=∀ q∈p,bS q
def A6 (p:List Pt):Bool:=p.all fun q=>decide (bS q)
theorem iK {p:List Pt}:A6 p=true↔gM p:=by
 simp only[A6,List.all_eq_true,decide_eq_true_eq];exact Iff.rfl
theorem gM.pt {p:List Pt} (h:gM p) (i:Nat):bS (pt p i):=by
 rcases Nat.lt_or_ge i p.length with hi|hi
 ·rw[vN hi];exact h _ (List.getElem_mem hi)
 ·unfold Go.Pv.pt
  rw[List.getD_eq_getElem?_getD,List.getElem?_eq_none hi]
  unfold bS;decide
def TL (p:List Pt):Bool:=decide (p.length≤1000)&&A6 p
def RH {α:Type} (p:List Pt) (r:α):Option α:=match TL p with
 | true=>some r
 | false=>none
theorem RI {α:Type} {p:List Pt} {t r:α} (h:RH p t=some r):p.length≤1000∧gM p∧r=t:=by
 unfold RH at h;split at h
 ·rename_i hc
  simp only[TL,Bool.and_eq_true,decide_eq_true_eq,iK] at hc
  cases h;exact ⟨hc.1,hc.2,rfl⟩
 ·cases h
theorem RJ {α:Type} {p:List Pt} (t:α) (h:p.length≤1000) (h2:gM p):RH p t=some t:=by
 unfold RH;rw[show TL p=true by simp only[TL,Bool.and_eq_true,decide_eq_true_eq,iK];exact ⟨h,h2⟩]
theorem A0W {a b c:Pt} (ha:bS a) (hb:bS b) (hc:bS c):IntKind.i64.wrap (IntKind.i64.wrap (IntKind.i64.wrap (a.1-b.1)*IntKind.i64.wrap (c.1-b.1))+IntKind.i64.wrap (IntKind.i64.wrap (a.2-b.2)*IntKind.i64.wrap (c.2-b.2)))=kY a b c:=by
 unfold bS at ha hb hc
 have h1:=CI (x:=a.1-b.1) (y:=c.1-b.1) (M:=65536) (N:=65536) (by omega) (by omega) (by omega) (by omega)
 have h2:=CI (x:=a.2-b.2) (y:=c.2-b.2) (M:=65536) (N:=65536) (by omega) (by omega) (by omega) (by omega)
 rw[aQ (a.1-b.1) (by omega) (by omega),aQ (c.2-b.2) (by omega) (by omega),aQ (a.2-b.2) (by omega) (by omega),aQ (c.1-b.1) (by omega) (by omega),
  aQ ((a.1-b.1)*(c.1-b.1)) (by omega) (by omega),aQ ((a.2-b.2)*(c.2-b.2)) (by omega) (by omega),aQ _ (by omega) (by omega)]
 rfl
noncomputable def GN:Env:=Env.of [(171,.pure dP),(172,.pure oF)]
def T7:FuncId→Hint:=fun f=>match f == 153 with|true=>⟨fun r=>match r == 3 with|true=>.inv [.val 13 false (.int .i64)]|false=>match r == 12 with|true=>.inv [.val 8 false (.int .i64)]|false=>.none,fun _ _=>none,fun _=>none⟩|false=>aT
theorem AB1:aE Tryz.prog GN:=aE.cons (x:=.pure dP) yT (aE.cons (x:=.pure oF) AXY (aE.nil _))
def HG (a0:List aJ) (R:T→Prop):Prop :=
 a7 (Int×PUnit)
 (fun (X0:Int×PUnit→Prop) (s1:Int×PUnit) =>
 aB (decide (s1.1<(↑(List.map aA.enc a0).length:Int)))
 (aO aA (List.map aA.enc a0) s1.1 fun (y2:aJ) =>
 bV (!decide ((↑(List.map aA.enc a0).length:Int)=0))
 (aO aA (List.map aA.enc a0)
 ((IntKind.i64.wrap (s1.1+1)).tmod (↑(List.map aA.enc a0).length:Int))
 fun (y3:aJ) =>
 aB (decide (y2.1=y3.1)&&(decide (y2.2=y3.2)&&true))
 (R (T.v (.bool false)))
 (bV (!decide ((↑(List.map aA.enc a0).length:Int)=0))
 (aO aA (List.map aA.enc a0)
 ((IntKind.i64.wrap (s1.1+2)).tmod (↑(List.map aA.enc a0).length:Int))
 fun (y4:aJ) =>
 aG [(false,Sy.int IntKind.i64)]
 (dP
 [aC true aA y2,aC true aA y3,
 aC true aA y4])
 fun (y5:Int) =>
 aB (decide (y5=0))
 (aB
 (decide
 (0 <
 IntKind.i64.wrap
 (IntKind.i64.wrap
 (IntKind.i64.wrap (y2.1-y3.1)*IntKind.i64.wrap (y4.1-y3.1)) +
 IntKind.i64.wrap
 (IntKind.i64.wrap (y2.2-y3.2)*IntKind.i64.wrap (y4.2-y3.2)))))
 (R (T.v (.bool false)))
 (a7 (Int×PUnit)
 (fun (X6:Int×PUnit→Prop) (s7:Int×PUnit) =>
 aB (decide (s7.1<(↑(List.map aA.enc a0).length:Int)))
 (bV (!decide ((↑(List.map aA.enc a0).length:Int)=0))
 (aB
 (!decide
 ((IntKind.i64.wrap (s7.1+1)).tmod
 (↑(List.map aA.enc a0).length:Int) =
 s1.1))
 (aO aA (List.map aA.enc a0) s7.1
 fun (y8:aJ) =>
 bV (!decide ((↑(List.map aA.enc a0).length:Int)=0))
 (aO aA (List.map aA.enc a0)
 ((IntKind.i64.wrap (s7.1+1)).tmod
 (↑(List.map aA.enc a0).length:Int))
 fun (y9:aJ) =>
 aG [(false,Sy.bool)]
 (oF
 [aC true aA y2,aC true aA y3,
 aC true aA y8,aC true aA y9])
 fun (y10:Bool) =>
 aB y10 (R (T.v (.bool false)))
 (X6 (IntKind.i64.wrap (s7.1+1),()))))
 (X6 (IntKind.i64.wrap (s7.1+1),()))))
 (X0 (IntKind.i64.wrap (s1.1+1),())))
 (IntKind.i64.wrap (s1.1+2),())))
 (a7 (Int×PUnit)
 (fun (X11:Int×PUnit→Prop) (s12:Int×PUnit) =>
 aB (decide (s12.1<(↑(List.map aA.enc a0).length:Int)))
 (bV (!decide ((↑(List.map aA.enc a0).length:Int)=0))
 (aB
 (!decide
 ((IntKind.i64.wrap (s12.1+1)).tmod
 (↑(List.map aA.enc a0).length:Int) =
 s1.1))
 (aO aA (List.map aA.enc a0) s12.1
 fun (y13:aJ) =>
 bV (!decide ((↑(List.map aA.enc a0).length:Int)=0))
 (aO aA (List.map aA.enc a0)
 ((IntKind.i64.wrap (s12.1+1)).tmod
 (↑(List.map aA.enc a0).length:Int))
 fun (y14:aJ) =>
 aG [(false,Sy.bool)]
 (oF
 [aC true aA y2,aC true aA y3,
 aC true aA y13,aC true aA y14])
 fun (y15:Bool) =>
 aB y15 (R (T.v (.bool false)))
 (X11 (IntKind.i64.wrap (s12.1+1),()))))
 (X11 (IntKind.i64.wrap (s12.1+1),()))))
 (X0 (IntKind.i64.wrap (s1.1+1),())))
 (IntKind.i64.wrap (s1.1+2),()))))))
 (R (T.v (.bool true))))
 (0,())
theorem YB ( a0 R):bA aW Tryz.prog GN T7 8 153 [aC false aA.li a0] R=HG a0 R:=by kernel_rfl
abbrev zX:Sh:=[(false,aA.li)]
def C1 (p:List aJ):Option T:=RH p (T.v (.bool (oA p)))
noncomputable def kL:List T→Option (T):=gS zX C1
theorem ZT {a0}:kL [T.sl false (List.map aA.enc a0)]=C1 (a0):=a6 (s:=zX) rfl (a0) rfl
theorem ANP (h:∀ a0 r,C1 (a0)=some r→bY zX (a0)→HG a0 (fun y=>y=r)):aK Tryz.prog 153 kL :=
 aP (E:=GN) (Hs:=T7) AB1 aU aV (aL rfl) 8 ⟨_,_,Tryz.func153,rfl⟩ rfl fun x r h1 h2=>by
  let a0:=x
  rw[show Sh.bK zX (a0)=[aC false aA.li a0] from rfl,YB]
  exact h a0 r h1 h2
theorem rJ {n:Nat} {f:Nat→Bool} {i:Nat} (hi:i<n) (h:f i=false):(List.range n).all f=false:=by
 rw[Bool.eq_false_iff];intro ha
 have:=cE.1 ha i hi
 rw[h] at this;cases this
theorem AU3 {p:List aJ} {i:Nat} (hl:p.length≤1000) (hn:gM p) (hi:i<p.length) {Bad Good:Prop} (hbad:(List.range p.length).all (fun k=>decide (k<i+2)||q9 p i k)=false→Bad) (hgood:(List.range p.length).all (fun k=>decide (k<i+2)||q9 p i k)=true→Good) :
  a7 (Int×PUnit)
   (fun (X6:Int×PUnit→Prop) (s7:Int×PUnit) =>
    aB (decide (s7.1<(↑(List.map aA.enc p).length:Int)))
     (bV (!decide ((↑(List.map aA.enc p).length:Int)=0))
      (aB (!decide ((IntKind.i64.wrap (s7.1+1)).tmod (↑(List.map aA.enc p).length:Int)=(i:Int)))
       (aO aA (List.map aA.enc p) s7.1 fun (y8:aJ) =>
        bV (!decide ((↑(List.map aA.enc p).length:Int)=0))
         (aO aA (List.map aA.enc p) ((IntKind.i64.wrap (s7.1+1)).tmod (↑(List.map aA.enc p).length:Int))
          fun (y9:aJ) =>
          aG [(false,Sy.bool)] (oF [aC true aA (pt p i),aC true aA (nx p i),aC true aA y8,aC true aA y9])
           fun (y10:Bool)=>aB y10 Bad (X6 (IntKind.i64.wrap (s7.1+1),()))))
       (X6 (IntKind.i64.wrap (s7.1+1),()))))
     Good)
   (IntKind.i64.wrap ((i:Int)+2),()):=by
 refine aY p.length (fun m s=>s=(((i+2+m:Nat):Int),())∧∀ k,k<i+2+m→k<p.length→(decide (k<i+2)||q9 p i k)=true) ⟨by rw[aQ _ (by omega) (by omega)];simp,fun k h1 h2=>by simp at h1;simp[h1]⟩ ?_
 rintro X m s hm ⟨rfl,hJ⟩ hX
 dsimp only
 rw[List.length_map]
 refine bJ (fun hlt=>?_) fun hge=>hgood (cE.2 fun k hk=>hJ k (by omega) hk)
 have hk:i+2+m<p.length:=by omega
 have hne:(!decide ((p.length:Int)=0))=true:=by rw[decide_eq_false (by omega)];rfl
 have hix:(IntKind.i64.wrap (((i+2+m:Nat):Int)+1)).tmod (p.length:Int)=(((i+2+m+1) % p.length:Nat):Int):=iO (c:=1) hl (by omega) (by omega)
 have hw:IntKind.i64.wrap (((i+2+m:Nat):Int)+1)=((i+2+(m+1):Nat):Int):=by rw[aQ _ (by omega) (by omega)];omega
 have hmod:(i+2+m+1) % p.length<p.length:=Nat.mod_lt _ (by omega)
 have go:q9 p i (i+2+m)=true→X (((i+2+(m+1):Nat):Int),()):=fun h=>hX _ (by omega) ⟨rfl,fun k h1 h2=>by
  rcases Nat.lt_or_ge k (i+2+m) with h3|h3
  ·exact hJ k h3 h2
  ·have:k=i+2+m:=by omega
   subst this;rw[h];simp⟩
 refine ⟨hne,?_⟩
 rw[hix,hw]
 refine gT (fun h=>?_) fun h=>go (by unfold q9;rw[decide_eq_true (show (i+2+m+1) % p.length=i by omega)];rfl)
 rw[bR hk,AII,bR hmod]
 refine ⟨hne,?_⟩
 refine aD (s:=[(false,.bool)]) (AMQ (hn.pt _) (hn.pt _) (hn.pt _) (hn.pt _)) ?_
 have e:q9 p i (i+2+m) = !bO (pt p i) (nx p i) (pt p (i+2+m)) (nx p (i+2+m)):=by
  unfold q9;rw[decide_eq_false (show ¬ (i+2+m+1) % p.length=i by omega)];rfl
 refine tA (fun hm=>hbad (rJ hk ?_)) fun hm=>go ?_
 ·show (decide (i+2+m<i+2)||q9 p i (i+2+m))=false
  rw[e,show bO (pt p i) (nx p i) (pt p (i+2+m)) (nx p (i+2+m))=true from hm];simp
 ·rw[e,show bO (pt p i) (nx p i) (pt p (i+2+m)) (nx p (i+2+m))=false from hm];rfl
theorem AL3:aK Tryz.prog 153 kL:=ANP fun p r h hb=>by
 obtain ⟨hl,hn,rfl⟩:=RI h
 clear h
 unfold HG
 refine aY p.length (fun k s=>s=((k:Int),())∧∀ i,i<k→i<p.length→EL p i=true) ⟨rfl,fun i h=>by omega⟩ ?_
 rintro X k s hk ⟨rfl,hJ⟩ hX
 dsimp only
 refine bJ (fun hlt=>?_) fun hge=>cL (Eq.symm (cE.2 fun i hi=>hJ i (by rw[List.length_map] at hge;omega) hi))
 rw[List.length_map] at hlt
 have hlt:k<p.length:=by omega
 have hne:(!decide (((List.map aA.enc p).length:Int)=0))=true:=by rw[List.length_map,decide_eq_false (by omega)];rfl
 have hm1:(k+1) % p.length<p.length:=Nat.mod_lt _ (by omega)
 have hm2:(k+2) % p.length<p.length:=Nat.mod_lt _ (by omega)
 have i1:(IntKind.i64.wrap ((k:Int)+1)).tmod ((List.map aA.enc p).length:Int)=(((k+1) % p.length:Nat):Int):=by rw[List.length_map];exact iO (c:=1) hl (by omega) (by omega)
 have i2:(IntKind.i64.wrap ((k:Int)+2)).tmod ((List.map aA.enc p).length:Int)=(((k+2) % p.length:Nat):Int):=by rw[List.length_map];exact iO (c:=2) hl (by omega) (by omega)
 have bad:EL p k=false→T.v (.bool false)=T.v (.bool (oA p)):=fun h=>cL (rJ hlt h).symm
 have qF:EL p k=true→X (IntKind.i64.wrap ((k:Int)+1),()):=fun h=>hX _ hlt ⟨by rw[show IntKind.i64.wrap ((k:Int)+1)=((k+1:Nat):Int) from aQ _ (by omega) (by omega)],fun i h1 h2=>by
  rcases Nat.lt_or_ge i k with h3|h3
  ·exact hJ i h3 h2
  ·have:i=k:=by omega
   subst this;exact h⟩
 rw[bR hlt,i1]
 refine ⟨hne,?_⟩
 rw[bR hm1]
 have heq:(decide ((pt p k).1=(pt p ((k+1) % p.length)).1)&&(decide ((pt p k).2=(pt p ((k+1) % p.length)).2)&&true))=decide (pt p k=nx p k):=by
  rw[Bool.and_true,←Bool.decide_and]
  exact decide_eq_decide.2 Prod.ext_iff.symm
 rw[heq]
 refine bJ (fun h=>bad (by unfold EL;rw[decide_eq_true h];rfl)) fun h1=>?_
 refine ⟨hne,?_⟩
 rw[i2,bR hm2]
 refine aD (s:=[(false,.int .i64)]) (iY (hn.pt _) (hn.pt _) (hn.pt _)) ?_
 have inner:(decide (aI (pt p k) (nx p k) (nG p k)=0)&&decide (0<kY (pt p k) (nx p k) (nG p k)))=false→EL p k=(List.range p.length).all fun j=>decide (j<k+2)||q9 p k j:=fun h=>by
  unfold EL;rw[decide_eq_false h1,h];simp
 have tail:(decide (aI (pt p k) (nx p k) (nG p k)=0)&&decide (0<kY (pt p k) (nx p k) (nG p k)))=false→_:=fun h=>AU3 (Bad:=T.v (.bool false)=T.v (.bool (oA p))) (Good:=X (IntKind.i64.wrap ((k:Int)+1),())) hl hn hlt (fun h2=>bad (by rw[inner h,h2])) (fun h2=>qF (by rw[inner h,h2]))
 refine bJ (fun h2=>?_) fun h2=>tail (by rw[show decide (aI (pt p k) (nx p k) (nG p k)=0)=false from decide_eq_false h2];rfl)
 rw[A0W (hn.pt _) (hn.pt _) (hn.pt _)]
 refine bJ (fun h3=>bad ?_) fun h3=>tail (by rw[show decide (0<kY (pt p k) (nx p k) (nG p k))=false from decide_eq_false h3];simp)
 unfold EL
 rw[decide_eq_true (show aI (pt p k) (nx p k) (nG p k)=0 from h2),decide_eq_true (show 0<kY (pt p k) (nx p k) (nG p k) from h3)]
 simp
theorem ZU {p:List Pt} (h:p.length≤1000) (h2:gM p):kL [T.sl false (List.map aA.enc p)]=some (Sh.enc [(false,.bool)] (oA p)):=(ZT ..).trans (RJ _ h h2)
def cM:Nat→(Nat→Int)→Int
 | 0,_=>0
 | n+1,f=>cM n f+f n
def CN (p:List Pt) (i:Nat):Int:=(pt p i).1*(nx p i).2-(nx p i).1*(pt p i).2
def eU (p:List Pt):Int:=cM p.length (CN p)
theorem AA1 {p:List Pt} (h:gM p) (i:Nat):(-1073741824≤(pt p i).1*(nx p i).2∧(pt p i).1*(nx p i).2≤1073741824)∧(-1073741824≤(nx p i).1*(pt p i).2∧(nx p i).1*(pt p i).2≤1073741824):=by
 have h1:=h.pt i
 have h2:bS (nx p i):=h.pt _
 unfold bS at h1 h2
 have b1:=CI (x:=(pt p i).1) (y:=(nx p i).2) (M:=32768) (N:=32768) (by omega) (by omega) (by omega) (by omega)
 have b2:=CI (x:=(nx p i).1) (y:=(pt p i).2) (M:=32768) (N:=32768) (by omega) (by omega) (by omega) (by omega)
 constructor<;>constructor<;>omega
theorem yM {p:List Pt} (h:gM p):∀ n:Nat,-(2147483648*(n:Int))≤cM n (CN p)∧cM n (CN p)≤2147483648*(n:Int)
 | 0=>by simp[cM]
 | n+1=>by
  have ih:=yM h n
  have hb:=AA1 h n
  unfold cM
  have e:CN p n=(pt p n).1*(nx p n).2-(nx p n).1*(pt p n).2:=rfl
  constructor<;>push_cast<;>omega
noncomputable def WU:Env:=Env.of []
def AO0:FuncId→Hint:=fun f=>match f == 154 with|true=>⟨fun r=>match r == 3 with|true=>.inv [.val 3 false (.int .i64),.val 9 false (.int .i64)]|false=>.none,fun _ _=>none,fun _=>none⟩|false=>aT
theorem AQ4:aE Tryz.prog WU:=aE.nil _
def XU (a0:List aJ) (R:T→Prop):Prop :=
 a7 (Int×Int×PUnit)
 (fun (X0:Int×Int×PUnit→Prop) (s1:Int×Int×PUnit) =>
 aB (decide (s1.2.1<(↑(List.map aA.enc a0).length:Int)))
 (aO aA (List.map aA.enc a0) s1.2.1 fun (y2:aJ) =>
 bV (!decide ((↑(List.map aA.enc a0).length:Int)=0))
 (aO aA (List.map aA.enc a0)
 ((IntKind.i64.wrap (s1.2.1+1)).tmod (↑(List.map aA.enc a0).length:Int))
 fun (y3:aJ) =>
 X0
 (IntKind.i64.wrap
 (s1.1 +
 IntKind.i64.wrap
 (IntKind.i64.wrap (y2.1*y3.2)-IntKind.i64.wrap (y3.1*y2.2))),
 IntKind.i64.wrap (s1.2.1+1),())))
 (R (T.v (.int .i64 s1.1))))
 (0,0,())
theorem AKV ( a0 R):bA aW Tryz.prog WU AO0 8 154 [aC false aA.li a0] R=XU a0 R:=by kernel_rfl
abbrev L8:Sh:=[(false,aA.li)]
def SD (p:List aJ):Option T:=RH p (T.v (Value.int .i64 (eU p)))
noncomputable def lB:List T→Option (T):=gS L8 SD
theorem AMM {a0}:lB [T.sl false (List.map aA.enc a0)]=SD (a0):=a6 (s:=L8) rfl (a0) rfl
theorem AZR (h:∀ a0 r,SD (a0)=some r→bY L8 (a0)→XU a0 (fun y=>y=r)):aK Tryz.prog 154 lB :=
 aP (E:=WU) (Hs:=AO0) AQ4 aU aV (aL rfl) 8 ⟨_,_,Tryz.func154,rfl⟩ rfl fun x r h1 h2=>by
  let a0:=x
  rw[show Sh.bK L8 (a0)=[aC false aA.li a0] from rfl,AKV]
  exact h a0 r h1 h2
theorem AFS:aK Tryz.prog 154 lB:=AZR fun p r h hb=>by
 obtain ⟨hl,hn,rfl⟩:=RI h
 clear h
 unfold XU
 refine aY p.length (fun k s=>s=(cM k (CN p),(k:Int),())) rfl ?_
 rintro X k s hk rfl hX
 dsimp only
 refine bJ (fun hlt=>?_) fun hge=>sF (by rw[List.length_map] at hge;rw[show k=p.length by omega];rfl)
 rw[List.length_map] at hlt
 have hlt:k<p.length:=by omega
 have hne:(!decide (((List.map aA.enc p).length:Int)=0))=true:=by rw[List.length_map,decide_eq_false (by omega)];rfl
 have hm1:(k+1) % p.length<p.length:=Nat.mod_lt _ (by omega)
 have i1:(IntKind.i64.wrap ((k:Int)+1)).tmod ((List.map aA.enc p).length:Int)=(((k+1) % p.length:Nat):Int):=by rw[List.length_map];exact iO (c:=1) hl (by omega) (by omega)
 rw[bR hlt,i1]
 refine ⟨hne,?_⟩
 rw[bR hm1]
 have hb1:=AA1 hn k
 have hb2:=yM hn k
 have hb3:=yM hn (k+1)
 refine hX _ hlt ?_
 rw[show IntKind.i64.wrap ((k:Int)+1)=((k+1:Nat):Int) from aQ _ (by omega) (by omega)]
 have e:IntKind.i64.wrap (cM k (CN p)+IntKind.i64.wrap (IntKind.i64.wrap ((pt p k).1*(nx p k).2)-IntKind.i64.wrap ((nx p k).1*(pt p k).2)))=cM (k+1) (CN p):=by
  rw[aQ ((pt p k).1*(nx p k).2) (by omega) (by omega),aQ ((nx p k).1*(pt p k).2) (by omega) (by omega),aQ ((pt p k).1*(nx p k).2-(nx p k).1*(pt p k).2) (by omega) (by omega),aQ _ (by omega) (by omega)]
  rfl
 rw[←e];rfl
theorem QU {p:List Pt} (h:p.length≤1000) (h2:gM p):lB [T.sl false (List.map aA.enc p)]=some (Sh.enc [(false,.int .i64)] (eU p)):=(AMM ..).trans (RJ _ h h2)
def dB (p:List Pt):Int:=if p.length<3 then 3 else if 32<p.length then 4 else if A6 p=false then 9 else if oA p=false∨eU p=0 then 17 else 0
noncomputable def GM:Env:=Env.of [(152,.pure u9),(153,.pure kL),(154,.pure lB)]
def T6:FuncId→Hint:=fun f=>match f == 170 with|true=>⟨fun r=>match r == 2 with|true=>.inv [.val 8 false (.int .i64)]|false=>.none,fun _ _=>none,fun _=>none⟩|false=>aT
theorem AB0:aE Tryz.prog GM:=aE.cons (x:=.pure u9) APK (aE.cons (x:=.pure kL) AL3 (aE.cons (x:=.pure lB) AFS (aE.nil _)))
def HF (a0:List aJ) (R:T→Prop):Prop :=
 aB (decide ((↑(List.map aA.enc a0).length:Int)<3)) (R (T.v (.int .i64 3)))
 (aB (decide (32<(↑(List.map aA.enc a0).length:Int)))
 (R (T.v (.int .i64 4)))
 (a7 (Int×PUnit)
 (fun (X0:Int×PUnit→Prop) (s1:Int×PUnit) =>
 aB (decide (s1.1<(↑(List.map aA.enc a0).length:Int)))
 (aO aA (List.map aA.enc a0) s1.1 fun (y2:aJ) =>
 aG [(false,Sy.bool)] (u9 [aC true aA y2]) fun (y3:Bool) =>
 aB y3
 (aB (decide (0≤s1.1)) (R (T.v (.int .i64 9)))
 (aG [(false,Sy.bool)]
 (kL [T.sl false (List.map aA.enc a0)]) fun (y4:Bool) =>
 aB (!y4) (R (T.v (.int .i64 17)))
 (aG [(false,Sy.int IntKind.i64)]
 (lB [T.sl false (List.map aA.enc a0)]) fun (y5:Int) =>
 aB (decide (y5=0)) (R (T.v (.int .i64 17)))
 (R (T.v (.int .i64 0))))))
 (X0 (IntKind.i64.wrap (s1.1+1),())))
 (aG [(false,Sy.bool)] (kL [T.sl false (List.map aA.enc a0)])
 fun (y6:Bool) =>
 aB (!y6) (R (T.v (.int .i64 17)))
 (aG [(false,Sy.int IntKind.i64)]
 (lB [T.sl false (List.map aA.enc a0)]) fun (y7:Int) =>
 aB (decide (y7=0)) (R (T.v (.int .i64 17)))
 (R (T.v (.int .i64 0))))))
 (0,())))
theorem XX ( a0 R):bA aW Tryz.prog GM T6 8 128 [aC false aA.li a0] R=HF a0 R:=by kernel_rfl
abbrev zW:Sh:=[(false,aA.li)]
def C0 (p:List aJ):Option T:=some (T.v (Value.int .i64 (dB p)))
noncomputable def eC:List T→Option (T):=gS zW C0
theorem ZS {a0}:eC [T.sl false (List.map aA.enc a0)]=C0 (a0):=a6 (s:=zW) rfl (a0) rfl
theorem ANO (h:∀ a0 r,C0 (a0)=some r→bY zW (a0)→HF a0 (fun y=>y=r)):aK Tryz.prog 128 eC :=
 aP (E:=GM) (Hs:=T6) AB0 aU aV (aL rfl) 8 ⟨_,_,Tryz.func128,rfl⟩ rfl fun x r h1 h2=>by
  let a0:=x
  rw[show Sh.bK zW (a0)=[aC false aA.li a0] from rfl,XX]
  exact h a0 r h1 h2
theorem B9:aK Tryz.prog 128 eC:=ANO fun p r h hb=>by
 cases h
 have is:∀ {n:Int},dB p=n→T.v (.int .i64 n)=T.v (.int .i64 (dB p)):=fun h=>by rw[h]
 unfold HF
 refine bJ (fun h=>is (by rw[List.length_map] at h;unfold dB;rw[if_pos (by omega)])) fun h1=>?_
 refine bJ (fun h=>is (by rw[List.length_map] at h h1;unfold dB;rw[if_neg (by omega),if_pos (by omega)])) fun h2=>?_
 rw[List.length_map] at h1 h2
 refine aY p.length (fun k s=>s=((k:Int),())∧∀ i,i<k→i<p.length→bS (pt p i)) ⟨rfl,fun i h=>by omega⟩ ?_
 rintro X k s hk ⟨rfl,hJ⟩ hX
 dsimp only
 refine bJ (fun hlt=>?_) fun hge=>?_
 ·rw[List.length_map] at hlt
  have hlt:k<p.length:=by omega
  rw[bR hlt]
  refine aD (s:=[(false,.bool)]) (y:=!decide (bS (pt p k))) (U8 ..) ?_
  refine gT (fun hf=>?_) fun hn=>hX _ hlt ⟨by rw[show IntKind.i64.wrap ((k:Int)+1)=((k+1:Nat):Int) from aQ _ (by omega) (by omega)],fun i h1 h2=>by
   rcases Nat.lt_or_ge i k with h3|h3
   ·exact hJ i h3 h2
   ·have:i=k:=by omega
    subst this;exact hn⟩
  refine bJ (fun _=>is ?_) fun h=>by omega
  have:A6 p=false:=by
   rw[Bool.eq_false_iff];intro h
   have:=iK.1 h _ (List.getElem_mem hlt)
   rw[←vN hlt] at this
   exact hf this
  unfold dB;rw[if_neg (by omega),if_neg (by omega),if_pos this]
 ·have hN:gM p:=fun q hq=>by
   obtain ⟨i,hi,rfl⟩:=List.mem_iff_getElem.1 hq
   rw[←vN hi]
   rw[List.length_map] at hge
   exact hJ i (by omega) hi
  have hnb:¬ A6 p=false:=by rw[iK.2 hN];simp
  refine aD (s:=[(false,.bool)]) (ZU (by omega) hN) ?_
  refine dK (fun h=>is (by unfold dB;rw[if_neg (by omega),if_neg (by omega),if_neg hnb,if_pos (.inl h)])) fun hs=>?_
  refine aD (s:=[(false,.int .i64)]) (QU (by omega) hN) ?_
  refine bJ (fun h=>is (by unfold dB;rw[if_neg (by omega),if_neg (by omega),if_neg hnb,if_pos (.inr h)])) fun ha=>is ?_
  unfold dB
  rw[if_neg (by omega),if_neg (by omega),if_neg hnb,if_neg]
  rintro (h|h)
  ·rw[show oA p=true from hs] at h;cases h
  ·exact ha h
theorem oE (p:List Pt):eC [T.sl false (List.map aA.enc p)]=some (Sh.enc [(false,.int .i64)] (dB p)):=ZS ..
theorem dR {p:List Pt} (h:dB p=0):3≤p.length∧p.length≤32∧gM p∧oA p=true∧eU p≠0:=by
 unfold dB at h
 by_cases h1:p.length<3
 ·rw[if_pos h1] at h;cases h
 rw[if_neg h1] at h
 by_cases h2:32<p.length
 ·rw[if_pos h2] at h;cases h
 rw[if_neg h2] at h
 by_cases h3:A6 p=false
 ·rw[if_pos h3] at h;cases h
 rw[if_neg h3] at h
 by_cases h4:oA p=false∨eU p=0
 ·rw[if_pos h4] at h;cases h
 refine ⟨by omega,by omega,iK.1 (by simpa using h3),by simpa using fun e=>h4 (.inl e),fun e=>h4 (.inr e)⟩
def gF (p:List Pt):Int:=if dB p=0 then eU p else 0
noncomputable def M8:Env:=Env.of [(128,.pure eC),(154,.pure lB)]
def AD8:FuncId→Hint:=fun _=>aT
theorem AJW:aE Tryz.prog M8:=aE.cons (x:=.pure eC) B9 (aE.cons (x:=.pure lB) AFS (aE.nil _))
def OI (a0:List aJ) (R:T→Prop):Prop :=
 aG [(false,Sy.int IntKind.i64)] (eC [T.sl false (List.map aA.enc a0)])
 fun (y0:Int) =>
 aB (!decide (y0=0)) (R (T.v (.int .i64 0)))
 (aG [(false,Sy.int IntKind.i64)]
 (lB [T.sl false (List.map aA.enc a0)]) fun (y1:Int) =>
 R (T.v (.int .i64 y1)))
theorem AC0 ( a0 R):bA aW Tryz.prog M8 AD8 8 129 [aC false aA.li a0] R=OI a0 R:=by kernel_rfl
abbrev FI:Sh:=[(false,aA.li)]
def JM (p:List aJ):Option T:=some (T.v (Value.int .i64 (gF p)))
noncomputable def iX:List T→Option (T):=gS FI JM
theorem AGQ {a0}:iX [T.sl false (List.map aA.enc a0)]=JM (a0):=a6 (s:=FI) rfl (a0) rfl
theorem AT7 (h:∀ a0 r,JM (a0)=some r→bY FI (a0)→OI a0 (fun y=>y=r)):aK Tryz.prog 129 iX :=
 aP (E:=M8) (Hs:=AD8) AJW aU aV (aL rfl) 8 ⟨_,_,Tryz.func129,rfl⟩ rfl fun x r h1 h2=>by
  let a0:=x
  rw[show Sh.bK FI (a0)=[aC false aA.li a0] from rfl,AC0]
  exact h a0 r h1 h2
theorem UY:aK Tryz.prog 129 iX:=AT7 fun p r h hb=>by
 cases h
 unfold OI
 refine aD (s:=[(false,.int .i64)]) (oE p) ?_
 refine gT (fun h=>sF (by unfold gF;rw[if_neg h])) fun h=>?_
 obtain ⟨_,h2,h3,_⟩:=dR h
 refine aD (s:=[(false,.int .i64)]) (QU (by omega) h3) ?_
 exact sF (by unfold gF;rw[if_pos h])
theorem xC (p:List Pt):iX [T.sl false (List.map aA.enc p)]=some (Sh.enc [(false,.int .i64)] (gF p)):=AGQ ..
end Go.Pv
namespace Go.Pv
open Go Go.Proofs
def EM (p:List Pt) (q:Pt):Bool:=(List.range p.length).any fun i=>iP (pt p i) (nx p i) q
def cN (p:List Pt) (q:Pt):Int:=if ¬ bS q∨¬ dB p=0 then -1 else if EM p q=true then 0 else if fH p q=true then 1 else -1
theorem dZ {n:Nat} {f:Nat→Bool}:(List.range n).any f=true↔∃ i,i<n∧f i=true:=by simp[List.any_eq_true,List.mem_range]
theorem B2 {n:Nat} {f:Nat→Bool} (h:∀ i,i<n→f i=false):(List.range n).any f=false:=by
 rw[Bool.eq_false_iff];intro ha
 obtain ⟨i,hi,h2⟩:=dZ.1 ha
 rw[h i hi] at h2;cases h2
theorem AYI {a b q:Pt} (ho:iP a b q=false):hit a b q=(!(decide (q.2<a.2) == decide (q.2<b.2))&&(decide (0<aI a b q) == decide (a.2<b.2))):=by
 rcases Int.lt_or_le q.2 a.2 with h1|h1
 ·rcases Int.lt_or_le q.2 b.2 with h2|h2
  ·unfold hit;simp[show ¬ a.2≤q.2 by omega,show ¬ b.2≤q.2 by omega,h1,h2]
  ·have hz:aI a b q≠0:=fun h=>by
    have:=lH (a:=b) (b:=a) (q:=q) (by rw[gC a b q,h];rfl) (by omega) h2 (by omega)
    rw[LW] at this;rw[this] at ho;cases ho
   have h3:decide (0<aI a b q) = !decide (aI a b q<0):=by
    rcases Int.lt_or_le (aI a b q) 0 with h|h
    ·rw[decide_eq_true h,decide_eq_false (by omega)];rfl
    ·rw[decide_eq_false (show ¬ aI a b q<0 by omega),decide_eq_true (by omega)];rfl
   unfold hit
   rw[h3]
   simp[show ¬ a.2≤q.2 by omega,h1,h2,show ¬ q.2<b.2 by omega,show ¬ a.2<b.2 by omega]
 ·rcases Int.lt_or_le q.2 b.2 with h2|h2
  ·unfold hit;simp[h1,show ¬ q.2<a.2 by omega,h2,show ¬ b.2≤q.2 by omega,show a.2<b.2 by omega]
  ·unfold hit;simp[show ¬ q.2<a.2 by omega,show ¬ q.2<b.2 by omega]
noncomputable def NG:Env:=Env.of [(128,.pure eC),(152,.pure u9),(176,.pure tT),(171,.pure dP)]
def AEF:FuncId→Hint:=fun f=>match f == 158 with|true=>⟨fun r=>match r == 5 with|true=>.inv [.val 5 false .bool,.val 19 false (.int .i64)]|false=>.none,fun _ _=>none,fun _=>none⟩|false=>aT
theorem AJ3:aE Tryz.prog NG:=aE.cons (x:=.pure eC) B9 (aE.cons (x:=.pure u9) APK (aE.cons (x:=.pure tT) AXZ (aE.cons (x:=.pure dP) yT (aE.nil _))))
def OP (a0:List aJ) (a1:aJ) (R:T→Prop):Prop :=
 aG [(false,Sy.bool)] (u9 [aC true aA a1]) fun (y0:Bool) =>
 aB y0 (R (T.v (.int .i64 (-1))))
 (aG [(false,Sy.int IntKind.i64)]
 (eC [T.sl false (List.map aA.enc a0)]) fun (y1:Int) =>
 aB (!decide (y1=0)) (R (T.v (.int .i64 (-1))))
 (a7 (Bool×Int×PUnit)
 (fun (X2:Bool×Int×PUnit→Prop) (s3:Bool×Int×PUnit) =>
 aB (decide (s3.2.1<(↑(List.map aA.enc a0).length:Int)))
 (aO aA (List.map aA.enc a0) s3.2.1 fun (y4:aJ) =>
 bV (!decide ((↑(List.map aA.enc a0).length:Int)=0))
 (aO aA (List.map aA.enc a0)
 ((IntKind.i64.wrap (s3.2.1+1)).tmod (↑(List.map aA.enc a0).length:Int))
 fun (y5:aJ) =>
 aG [(false,Sy.bool)]
 (tT
 [aC true aA y4,aC true aA y5,
 aC true aA a1])
 fun (y6:Bool) =>
 aB y6 (R (T.v (.int .i64 0)))
 (aB (decide (decide (a1.2<y4.2)=decide (a1.2<y5.2)))
 (X2 (s3.1,IntKind.i64.wrap (s3.2.1+1),()))
 (aG [(false,Sy.int IntKind.i64)]
 (dP
 [aC true aA y4,aC true aA y5,
 aC true aA a1])
 fun (y7:Int) =>
 aB (decide (decide (0<y7)=decide (y4.2<y5.2)))
 (X2 (!s3.1,IntKind.i64.wrap (s3.2.1+1),()))
 (X2 (s3.1,IntKind.i64.wrap (s3.2.1+1),()))))))
 (aB s3.1 (R (T.v (.int .i64 1)))
 (R (T.v (.int .i64 (-1))))))
 (false,0,())))
theorem AC7 ( a0 a1 R):bA aW Tryz.prog NG AEF 8 158 [aC false aA.li a0,aC true aA a1] R=OP a0 a1 R:=by kernel_rfl
abbrev FP:Sh:=[(false,aA.li),(true,aA)]
def JS (x:List aJ×aJ):Option T:=some (T.v (Value.int .i64 (cN x.1 x.2)))
noncomputable def iZ:List T→Option (T):=gS FP JS
theorem AGX {a0 a1}:iZ [T.sl false (List.map aA.enc a0),aC true aA a1]=JS (a0,a1):=a6 (s:=FP) rfl (a0,a1) rfl
theorem AUE (h:∀ a0 a1 r,JS (a0,a1)=some r→bY FP (a0,a1)→OP a0 a1 (fun y=>y=r)):aK Tryz.prog 158 iZ :=
 aP (E:=NG) (Hs:=AEF) AJ3 aU aV (aL rfl) 8 ⟨_,_,Tryz.func158,rfl⟩ rfl fun x r h1 h2=>by
  obtain ⟨a0,a1⟩:=x
  rw[show Sh.bK FP (a0,a1)=[aC false aA.li a0,aC true aA a1] from rfl,AC7]
  exact h a0 a1 r h1 h2
def eA (p q:List Pt):Bool:=(List.range p.length).any fun i=>(List.range q.length).any fun k=>bO (pt p i) (nx p i) (pt q k) (nx q k)
def kT (a0:List aJ) (a1:List aJ):List T:=[T.sl false (List.map aA.enc a0),T.sl false (List.map aA.enc a1),T.fn 156 [] []]
noncomputable def NN:Env:=Env.of [(156,.pure tW)]
def AEM:FuncId→Hint:=fun f=>match f == 155 with|true=>⟨fun r=>match r == 2 with|true=>.inv [.val 13 false (.int .i64)]|false=>match r == 5 with|true=>.inv [.val 20 false (.int .i64)]|false=>.none,fun _ _=>none,fun _=>none⟩|false=>aT
theorem AKA:aE Tryz.prog NN:=aE.cons (x:=.pure tW) ASX (aE.nil _)
def OW (a0:List aJ) (a1:List aJ) (R:T→Prop):Prop :=
 a7 (Int×PUnit)
 (fun (X0:Int×PUnit→Prop) (s1:Int×PUnit) =>
 aB (decide (s1.1<(↑(List.map aA.enc a0).length:Int)))
 (aO aA (List.map aA.enc a0) s1.1 fun (y2:aJ) =>
 a7 (Int×PUnit)
 (fun (X3:Int×PUnit→Prop) (s4:Int×PUnit) =>
 aB (decide (s4.1<(↑(List.map aA.enc a1).length:Int)))
 (aO aA (List.map aA.enc a1) s4.1 fun (y5:aJ) =>
 bV (!decide ((↑(List.map aA.enc a0).length:Int)=0))
 (aO aA (List.map aA.enc a0)
 ((IntKind.i64.wrap (s1.1+1)).tmod (↑(List.map aA.enc a0).length:Int))
 fun (y6:aJ) =>
 bV (!decide ((↑(List.map aA.enc a1).length:Int)=0))
 (aO aA (List.map aA.enc a1)
 ((IntKind.i64.wrap (s4.1+1)).tmod (↑(List.map aA.enc a1).length:Int))
 fun (y7:aJ) =>
 aG [(false,Sy.bool)]
 (tW
 [aC true aA y2,aC true aA y6,
 aC true aA y5,aC true aA y7])
 fun (y8:Bool) =>
 aB y8 (R (T.v (.bool true)))
 (X3 (IntKind.i64.wrap (s4.1+1),())))))
 (X0 (IntKind.i64.wrap (s1.1+1),())))
 (0,()))
 (R (T.v (.bool false))))
 (0,())
theorem ADE ( a0 a1 R):bA aW Tryz.prog NN AEM 8 155 (kT a0 a1) R=OW a0 a1 R:=by kernel_rfl
def K5 {α:Type} (p q:List Pt) (r:α):Option α:=match TL p&&TL q with
 | true=>some r
 | false=>none
theorem EO {α:Type} {p q:List Pt} {t r:α} (h:K5 p q t=some r):p.length≤1000∧gM p∧q.length≤1000∧gM q∧r=t:=by
 unfold K5 at h;split at h
 ·rename_i hc
  simp only[TL,Bool.and_eq_true,decide_eq_true_eq,iK] at hc
  cases h;exact ⟨hc.1.1,hc.1.2,hc.2.1,hc.2.2,rfl⟩
 ·cases h
theorem EP {α:Type} {p q:List Pt} (t:α) (h:p.length≤1000) (h2:gM p) (h3:q.length≤1000) (h4:gM q):K5 p q t=some t:=by
 unfold K5;rw[show (TL p&&TL q)=true by simp only[TL,Bool.and_eq_true,decide_eq_true_eq,iK];exact ⟨⟨h,h2⟩,h3,h4⟩]
def JX (x:List aJ×List aJ):Option T:=K5 x.1 x.2 (T.v (.bool (eA x.1 x.2)))
theorem WJ (x y:List aJ×List aJ) (h:kT x.1 x.2=kT y.1 y.2):x=y:=by
 unfold kT at h
 obtain ⟨h1,h2⟩:=List.cons.inj h
 have h2:=(List.cons.inj h2).1
 exact Prod.ext (map_inj (Sy.dO aA) (T.sl.inj h1).2) (map_inj (Sy.dO aA) (T.sl.inj h2).2)
noncomputable def jY:List T→Option (T):=gA (fun (x:List aJ×List aJ)=>kT x.1 x.2) JX
theorem AG6 (a0:List aJ) (a1:List aJ):jY (kT a0 a1)=JX (a0,a1):=lA (A:=(fun (x:List aJ×List aJ)=>kT x.1 x.2)) WJ (a0,a1)
theorem AUL (h:∀ (a0:List aJ) (a1:List aJ) (r:T),JX (a0,a1)=some r→(∀ t∈kT a0 a1,Bd t)→OW a0 a1 (fun y=>y=r)):aK Tryz.prog 155 jY :=
 fK (E:=NN) (Hs:=AEM) AKA aU aV (aL rfl) 8 ⟨_,_,Tryz.func155,rfl⟩ fun x r h1 h2=>by
  rw[ADE]
  exact h x.1 x.2 r h1 h2
theorem U3:aK Tryz.prog 155 jY:=AUL fun p q r h hb=>by
 obtain ⟨hl,hn,hl2,hn2,rfl⟩:=EO h
 replace hl:p.length≤1000:=hl
 replace hl2:q.length≤1000:=hl2
 clear h
 unfold OW
 refine aY p.length (fun k s=>s=((k:Int),())∧∀ i,i<k→i<p.length→((List.range q.length).any fun k=>bO (pt p i) (nx p i) (pt q k) (nx q k))=false) ⟨rfl,fun i h=>by omega⟩ ?_
 rintro X k s hk ⟨rfl,hJ⟩ hX
 dsimp only
 refine bJ (fun hlt=>?_) fun hge=>cL (Eq.symm (B2 fun i hi=>hJ i (by rw[List.length_map] at hge;omega) hi))
 rw[List.length_map] at hlt
 have hlt:k<p.length:=by omega
 have hne:(!decide (((List.map aA.enc p).length:Int)=0))=true:=by rw[List.length_map,decide_eq_false (by omega)];rfl
 have hm1:(k+1) % p.length<p.length:=Nat.mod_lt _ (by omega)
 have i1:(IntKind.i64.wrap ((k:Int)+1)).tmod ((List.map aA.enc p).length:Int)=(((k+1) % p.length:Nat):Int):=by rw[List.length_map];exact iO (c:=1) hl (by omega) (by omega)
 rw[bR hlt]
 refine aY q.length (fun j s=>s=((j:Int),())∧∀ i,i<j→i<q.length→bO (pt p k) (nx p k) (pt q i) (nx q i)=false) ⟨rfl,fun i h=>by omega⟩ ?_
 rintro Y j s hj ⟨rfl,hI⟩ hY
 dsimp only
 refine bJ (fun hlj=>?_) fun hgj=>hX _ hlt ⟨by rw[show IntKind.i64.wrap ((k:Int)+1)=((k+1:Nat):Int) from aQ _ (by omega) (by omega)],fun i h1 h2=>by
  rcases Nat.lt_or_ge i k with h3|h3
  ·exact hJ i h3 h2
  ·have:i=k:=by omega
   subst this;exact B2 fun m hm=>hI m (by rw[List.length_map] at hgj;omega) hm⟩
 rw[List.length_map] at hlj
 have hlj:j<q.length:=by omega
 have hne2:(!decide (((List.map aA.enc q).length:Int)=0))=true:=by rw[List.length_map,decide_eq_false (by omega)];rfl
 have hm2:(j+1) % q.length<q.length:=Nat.mod_lt _ (by omega)
 have i2:(IntKind.i64.wrap ((j:Int)+1)).tmod ((List.map aA.enc q).length:Int)=(((j+1) % q.length:Nat):Int):=by rw[List.length_map];exact iO (c:=1) hl2 (by omega) (by omega)
 rw[bR hlj,i1]
 refine ⟨hne,?_⟩
 rw[bR hm1,i2]
 refine ⟨hne2,?_⟩
 rw[bR hm2]
 refine aD (s:=[(false,.bool)]) ((AHC ..).trans (EK _ (hn.pt _) (hn.pt _) (hn2.pt _) (hn2.pt _))) ?_
 refine tA (fun h=>cL (Eq.symm (dZ.2 ⟨k,hlt,dZ.2 ⟨j,hlj,h⟩⟩))) fun h=>hY _ hlj ⟨by rw[show IntKind.i64.wrap ((j:Int)+1)=((j+1:Nat):Int) from aQ _ (by omega) (by omega)],fun i h1 h2=>by
  rcases Nat.lt_or_ge i j with h3|h3
  ·exact hI i h3 h2
  ·have:i=j:=by omega
   subst this;exact h⟩
theorem KS {p q:List Pt} (h:p.length≤1000) (h2:gM p) (h3:q.length≤1000) (h4:gM q):jY (kT p q)=some (Sh.enc [(false,.bool)] (eA p q)):=(AG6 ..).trans (EP _ h h2 h3 h4)
theorem U0:aK Tryz.prog 158 iZ:=AUE fun p q r h hb=>by
 cases h
 have is:∀ {n:Int},cN p q=n→T.v (.int .i64 n)=T.v (.int .i64 (cN p q)):=fun h=>by rw[h]
 unfold OP
 refine aD (s:=[(false,.bool)]) (y:=!decide (bS q)) (U8 ..) ?_
 refine gT (fun h=>is (by unfold cN;rw[if_pos (.inl h)])) fun hq=>?_
 refine aD (s:=[(false,.int .i64)]) (oE p) ?_
 refine gT (fun h=>is (by unfold cN;rw[if_pos (.inr h)])) fun hp=>?_
 obtain ⟨hl3,hl32,hn,_⟩:=dR hp
 have w:cN p q=if EM p q=true then 0 else if fH p q=true then 1 else -1:=by
  unfold cN;rw[if_neg];rintro (h|h)
  ·exact h hq
  ·exact h hp
 refine aY p.length (fun k s=>s=(fE k (fun i=>hit (pt p i) (nx p i) q),(k:Int),())∧∀ i,i<k→i<p.length→iP (pt p i) (nx p i) q=false) ⟨rfl,fun i h=>by omega⟩ ?_
 rintro X k s hk ⟨rfl,hJ⟩ hX
 dsimp only
 refine bJ (fun hlt=>?_) fun hge=>?_
 ·rw[List.length_map] at hlt
  have hlt:k<p.length:=by omega
  have hne:(!decide (((List.map aA.enc p).length:Int)=0))=true:=by rw[List.length_map,decide_eq_false (by omega)];rfl
  have hm1:(k+1) % p.length<p.length:=Nat.mod_lt _ (by omega)
  have i1:(IntKind.i64.wrap ((k:Int)+1)).tmod ((List.map aA.enc p).length:Int)=(((k+1) % p.length:Nat):Int):=by rw[List.length_map];exact iO (c:=1) (by omega) (by omega) (by omega)
  rw[bR hlt,i1]
  refine ⟨hne,?_⟩
  rw[bR hm1]
  refine aD (s:=[(false,.bool)]) (xE (hn.pt _) (hn.pt _) hq) ?_
  refine tA (fun h=>is (by rw[w,if_pos (show EM p q=true from dZ.2 ⟨k,hlt,h⟩)])) fun ho=>?_
  have ho:iP (pt p k) (nx p k) q=false:=ho
  have hw:IntKind.i64.wrap ((k:Int)+1)=((k+1:Nat):Int):=aQ _ (by omega) (by omega)
  have hh:=AYI ho
  have hJ':∀ i,i<k+1→i<p.length→iP (pt p i) (nx p i) q=false:=fun i h1 h2=>by
   rcases Nat.lt_or_ge i k with h3|h3
   ·exact hJ i h3 h2
   ·have:i=k:=by omega
    subst this;exact ho
  have step:∀ c,hit (pt p k) (nx p k) q=c→X ((fE k (fun i=>hit (pt p i) (nx p i) q) ^^ c),IntKind.i64.wrap ((k:Int)+1),()):=fun c hc=>hX _ hlt ⟨by rw[hw,fE,hc],hJ'⟩
  refine bJ (fun h=>?_) fun h=>?_
  ·have e:hit (pt p k) (nx p k) q=false:=by
    rw[hh,show decide (q.2<(pt p k).2)=decide (q.2<(nx p k).2) from h];simp
   have:=step false e
   rwa[Bool.xor_false] at this
  ·refine aD (s:=[(false,.int .i64)]) (iY (hn.pt _) (hn.pt _) hq) ?_
   have e0:hit (pt p k) (nx p k) q=(decide (0<aI (pt p k) (nx p k) q) == decide ((pt p k).2<(nx p k).2)):=by
    rw[hh,show (decide (q.2<(pt p k).2) == decide (q.2<(nx p k).2))=false from beq_eq_false_iff_ne.2 h];rfl
   refine bJ (fun h2=>?_) fun h2=>?_
   ·have:=step true (by rw[e0];exact beq_iff_eq.2 h2)
    rwa[Bool.xor_true] at this
   ·have:=step false (by rw[e0];exact beq_eq_false_iff_ne.2 h2)
    rwa[Bool.xor_false] at this
 ·rw[List.length_map] at hge
  have:k=p.length:=by omega
  subst this
  have hna:EM p q=false:=B2 fun i hi=>hJ i hi hi
  refine tA (fun h=>is ?_) fun h=>is ?_
  ·rw[w,hna,if_neg (by simp),if_pos (show fH p q=true from h)]
  ·rw[w,hna,if_neg (by simp),if_neg (by rw[show fH p q=false from h];simp)]
theorem xF (p:List Pt) (q:Pt):iZ [T.sl false (List.map aA.enc p),aC true aA q]=some (Sh.enc [(false,.int .i64)] (cN p q)):=AGX ..
def gB (p o:List Pt):Bool:=!eA p o&&p.all fun c=>decide (cN o c=1)
def fP (p q:List Pt):Bool:=!eA p q&&(decide (cN p (pt q 0)<0)&&decide (cN q (pt p 0)<0))
noncomputable def GQ:Env:=Env.of [(158,.pure iZ),(155,.pure jY)]
def UA:FuncId→Hint:=fun f=>match f == 170 with|true=>⟨fun r=>match r == 2 with|true=>.inv [.val 8 false (.int .i64)]|false=>.none,fun _ _=>none,fun _=>none⟩|false=>aT
theorem AB4:aE Tryz.prog GQ:=aE.cons (x:=.pure iZ) U0 (aE.cons (x:=.pure jY) U3 (aE.nil _))
def HJ (a0:List aJ) (a1:List aJ) (R:T→Prop):Prop :=
 aG [(false,Sy.bool)]
 (jY
 [T.sl false (List.map aA.enc a0),T.sl false (List.map aA.enc a1),
 T.fn 156 [] []])
 fun (y0:Bool) =>
 aB (!y0)
 (a7 (Int×PUnit)
 (fun (X1:Int×PUnit→Prop) (s2:Int×PUnit) =>
 aB (decide (s2.1<(↑(List.map aA.enc a0).length:Int)))
 (aO aA (List.map aA.enc a0) s2.1 fun (y3:aJ) =>
 aG [(false,Sy.int IntKind.i64)]
 (iZ [T.sl false (List.map aA.enc a1),aC true aA y3])
 fun (y4:Int) =>
 aB (!decide (y4=1)) (R (T.v (.bool !decide (0≤s2.1))))
 (X1 (IntKind.i64.wrap (s2.1+1),())))
 (R (T.v (.bool true))))
 (0,()))
 (R (T.v (.bool false)))
theorem YF ( a0 a1 R):bA aW Tryz.prog GQ UA 8 130 [aC false aA.li a0,aC false aA.li a1] R=HJ a0 a1 R:=by kernel_rfl
abbrev z6:Sh:=[(false,aA.li),(false,aA.li)]
def C4 (x:List aJ×List aJ):Option T:=K5 x.1 x.2 (T.v (.bool (gB x.1 x.2)))
noncomputable def mB:List T→Option (T):=gS z6 C4
theorem ZX {a0 a1}:mB [T.sl false (List.map aA.enc a0),T.sl false (List.map aA.enc a1)]=C4 (a0,a1):=a6 (s:=z6) rfl (a0,a1) rfl
theorem ANS (h:∀ a0 a1 r,C4 (a0,a1)=some r→bY z6 (a0,a1)→HJ a0 a1 (fun y=>y=r)):aK Tryz.prog 130 mB :=
 aP (E:=GQ) (Hs:=UA) AB4 aU aV (aL rfl) 8 ⟨_,_,Tryz.func130,rfl⟩ rfl fun x r h1 h2=>by
  obtain ⟨a0,a1⟩:=x
  rw[show Sh.bK z6 (a0,a1)=[aC false aA.li a0,aC false aA.li a1] from rfl,YF]
  exact h a0 a1 r h1 h2
theorem AL5:aK Tryz.prog 130 mB:=ANS fun p o r h hb=>by
 obtain ⟨hl,hn,hl2,hn2,rfl⟩:=EO h
 replace hl:p.length≤1000:=hl
 clear h
 unfold HJ
 refine aD (s:=[(false,.bool)]) (KS hl hn hl2 hn2) ?_
 refine dK (fun he=>?_) fun he=>cL (by unfold gB;rw[show eA p o=true from he];rfl)
 have w:gB p o=p.all fun c=>decide (cN o c=1):=by unfold gB;rw[show eA p o=false from he];rfl
 refine aY p.length (fun k s=>s=((k:Int),())∧p.all (fun c=>decide (cN o c=1))=(p.drop k).all fun c=>decide (cN o c=1)) ⟨rfl,by rw[List.drop_zero]⟩ ?_
 rintro X k s hk ⟨rfl,hJ⟩ hX
 dsimp only
 refine bJ (fun hlt=>?_) fun hge=>cL ?_
 ·rw[List.length_map] at hlt
  have hlt:k<p.length:=by omega
  rw[List.drop_eq_getElem_cons hlt,List.all_cons] at hJ
  rw[aS (r:=aA) hlt]
  refine aD (s:=[(false,.int .i64)]) (xF o p[k]) ?_
  refine gT (fun h=>cL ?_) fun h=>hX _ hlt ⟨by rw[show IntKind.i64.wrap ((k:Int)+1)=((k+1:Nat):Int) from aQ _ (by omega) (by omega)],by rw[hJ,decide_eq_true (show cN o p[k]=1 from h),Bool.true_and]⟩
  rw[w,hJ,decide_eq_false (show ¬ cN o p[k]=1 from h),decide_eq_true (show 0≤(k:Int) by omega)];rfl
 ·rw[List.length_map] at hge
  have:k=p.length:=by omega
  subst this
  rw[w,hJ,List.drop_length];rfl
theorem ZY {p q:List Pt} (h:p.length≤1000) (h2:gM p) (h3:q.length≤1000) (h4:gM q):mB [T.sl false (List.map aA.enc p),T.sl false (List.map aA.enc q)]=some (Sh.enc [(false,.bool)] (gB p q)):=(ZX ..).trans (EP _ h h2 h3 h4)
def AN1 (p q:List Pt) (t:T):Option T:=match p,q with
 | _::_,_::_=>K5 p q t
 | _,_=>none
noncomputable def NH:Env:=Env.of [(158,.pure iZ),(155,.pure jY)]
def AEG:FuncId→Hint:=fun _=>aT
theorem AJ4:aE Tryz.prog NH:=aE.cons (x:=.pure iZ) U0 (aE.cons (x:=.pure jY) U3 (aE.nil _))
def OQ (a0:List aJ) (a1:List aJ) (R:T→Prop):Prop :=
 aG [(false,Sy.bool)]
 (jY
 [T.sl false (List.map aA.enc a0),T.sl false (List.map aA.enc a1),
 T.fn 156 [] []])
 fun (y0:Bool) =>
 aB (!y0)
 (aO aA (List.map aA.enc a1) 0 fun (y1:aJ) =>
 aG [(false,Sy.int IntKind.i64)]
 (iZ [T.sl false (List.map aA.enc a0),aC true aA y1])
 fun (y2:Int) =>
 aB (decide (y2<0))
 (aO aA (List.map aA.enc a0) 0 fun (y3:aJ) =>
 aG [(false,Sy.int IntKind.i64)]
 (iZ [T.sl false (List.map aA.enc a1),aC true aA y3])
 fun (y4:Int)=>R (T.v (.bool (decide (y4<0)))))
 (R (T.v (.bool false))))
 (R (T.v (.bool false)))
theorem AC8 ( a0 a1 R):bA aW Tryz.prog NH AEG 8 131 [aC false aA.li a0,aC false aA.li a1] R=OQ a0 a1 R:=by kernel_rfl
abbrev FQ:Sh:=[(false,aA.li),(false,aA.li)]
def uL (x:List aJ×List aJ):Option T:=AN1 x.1 x.2 (T.v (.bool (fP x.1 x.2)))
noncomputable def pM:List T→Option (T):=gS FQ uL
theorem AGY {a0 a1}:pM [T.sl false (List.map aA.enc a0),T.sl false (List.map aA.enc a1)]=uL (a0,a1):=a6 (s:=FQ) rfl (a0,a1) rfl
theorem AUF (h:∀ a0 a1 r,uL (a0,a1)=some r→bY FQ (a0,a1)→OQ a0 a1 (fun y=>y=r)):aK Tryz.prog 131 pM :=
 aP (E:=NH) (Hs:=AEG) AJ4 aU aV (aL rfl) 8 ⟨_,_,Tryz.func131,rfl⟩ rfl fun x r h1 h2=>by
  obtain ⟨a0,a1⟩:=x
  rw[show Sh.bK FQ (a0,a1)=[aC false aA.li a0,aC false aA.li a1] from rfl,AC8]
  exact h a0 a1 r h1 h2
theorem AST:aK Tryz.prog 131 pM:=AUF fun p q r h hb=>by
 unfold uL AN1 at h
 split at h
 ·rename_i e1 e2
  obtain ⟨hl,hn,hl2,hn2,rfl⟩:=EO h
  have k1:0<p.length:=by rw[show p=_ from e1];simp
  have k2:0<q.length:=by rw[show q=_ from e2];simp
  clear h
  unfold OQ
  refine aD (s:=[(false,.bool)]) (KS hl hn hl2 hn2) ?_
  refine dK (fun he=>?_) fun he=>cL (by unfold fP;rw[show eA p q=true from he];rfl)
  have w:fP p q=(decide (cN p (pt q 0)<0)&&decide (cN q (pt p 0)<0)):=by unfold fP;rw[show eA p q=false from he];rfl
  rw[show (0:Int)=((0:Nat):Int) from rfl,bR k2]
  refine aD (s:=[(false,.int .i64)]) (xF p (pt q 0)) ?_
  refine bJ (fun h=>?_) fun h=>cL (by rw[w,decide_eq_false (show ¬ cN p (pt q 0)<0 from h)];rfl)
  rw[bR k1]
  refine aD (s:=[(false,.int .i64)]) (xF q (pt p 0)) ?_
  exact cL (by rw[w,decide_eq_true (show cN p (pt q 0)<0 from h)];rfl)
 ·cases h
theorem AGZ {p q:List Pt} (k1:0<p.length) (k2:0<q.length) (h:p.length≤1000) (h2:gM p) (h3:q.length≤1000) (h4:gM q):pM [T.sl false (List.map aA.enc p),T.sl false (List.map aA.enc q)]=some (Sh.enc [(false,.bool)] (fP p q)):=by
 refine (AGY ..).trans ?_
 unfold uL AN1
 cases p with
 | nil=>simp at k1
 | cons a p=>cases q with
  | nil=>simp at k2
  | cons b q=>exact EP _ h h2 h3 h4
end Go.Pv
namespace Go.Pv
open Go Go.Proofs
theorem gV {r:Sy} {l:List r.den} (f:Nat→Int) (hl:l.length≤1000000) {Body:(Int×PUnit→Prop)→Int×PUnit→r.den→Prop} {Exit:Prop}
  (hbody:∀ (X:Int×PUnit→Prop) (k:Nat) (hk:k<l.length),(∀ j,j<k→f j=0)→(f k=0→X (((k+1:Nat):Int),()))→(f k≠0→bC f (List.range l.length)=f k)→Body X ((k:Int),()) l[k]) (hexit:bC f (List.range l.length)=0→Exit) :
  a7 (Int×PUnit) (fun (X:Int×PUnit→Prop) (s:Int×PUnit)=>aB (decide (s.1<((List.map r.enc l).length:Int))) (aO r (List.map r.enc l) s.1 fun y=>Body X s y) Exit) (0,()):=by
 refine aY l.length (fun k s=>s=((k:Int),())∧bC f (List.range l.length)=bC f (List.range' k (l.length-k))∧∀ j,j<k→f j=0) ⟨rfl,by rw[List.range_eq_range'];rfl,fun j h=>by omega⟩ ?_
 rintro X k s hk ⟨rfl,he,hp⟩ hX
 dsimp only
 refine bJ (fun hlt=>?_) fun hge=>?_
 ·rw[List.length_map] at hlt
  have hlt:k<l.length:=by omega
  rw[aS hlt]
  obtain ⟨m,hm⟩:∃ m,l.length-k=m+1:=⟨l.length-k-1,by omega⟩
  rw[hm,List.range'_succ,bC] at he
  refine hbody X k hlt hp (fun h0=>?_) fun h0=>by rw[he,if_neg h0]
  rw[if_pos h0] at he
  exact hX _ hlt ⟨rfl,by rw[he];congr 2;omega,fun j hj=>by
   rcases Nat.lt_or_ge j k with h|h
   ·exact hp j h
   ·have:j=k:=by omega
    subst this;exact h0⟩
 ·rw[List.length_map] at hge
  have:l.length-k=0:=by omega
  rw[this] at he
  exact hexit he
def lP (s:eL) (i:Nat):Int:=if ¬ dB (s.2.getD i [])=0 then dB (s.2.getD i []) else if 0≤gF (s.2.getD i [])∨gB (s.2.getD i []) s.1=false then 17 else if ((List.range i).all fun k=>fP (s.2.getD i []) (s.2.getD k []))=false then 17 else 0
def gI (s:eL):Int:=if 8<s.2.length then 12 else if ¬ dB s.1=0 then dB s.1 else if gF s.1≤0 then 17 else bC (lP s) (List.range s.2.length)
theorem w4 {α:Type} {f:α→Int}:∀ {l:List α},bC f l=0→∀ a∈l,f a=0
 | a::l,h,b,hb=>by
  unfold bC at h
  by_cases ha:f a=0
  ·rw[if_pos ha] at h
   rcases List.mem_cons.1 hb with rfl|hb
   ·exact ha
   ·exact w4 h b hb
  ·rw[if_neg ha] at h;exact absurd h ha
 | [],_,b,hb=>by cases hb
theorem AUS (l:List (List aJ)):IX 1 (List.map aA.li.enc l)=true:=by cases l<;>rfl
noncomputable def NJ:Env:=Env.of [(128,.pure eC),(129,.pure iX),(130,.pure mB),(131,.pure pM)]
def AEI:FuncId→Hint:=fun f=>match f == 104 with|true=>⟨fun r=>match r == 9 with|true=>.inv [.val 26 false (.int .i64)]|false=>match r == 17 with|true=>.inv [.val 51 false (.int .i64)]|false=>.none,fun _ _=>none,fun _=>none⟩|false=>aT
theorem AJ6:aE Tryz.prog NJ:=aE.cons (x:=.pure eC) B9 (aE.cons (x:=.pure iX) UY (aE.cons (x:=.pure mB) AL5 (aE.cons (x:=.pure pM) AST (aE.nil _))))
def OS (a0:eL) (R:T→Prop):Prop :=
 aB (decide (8<(↑(List.map aA.li.enc a0.2).length:Int)))
 (R (T.v (.int .i64 12)))
 (aG [(false,Sy.int IntKind.i64)]
 (eC [T.sl false (List.map aA.enc a0.1)]) fun (y0:Int) =>
 aB (!decide (y0=0)) (R (T.v (.int .i64 y0)))
 (aG [(false,Sy.int IntKind.i64)]
 (iX [T.sl false (List.map aA.enc a0.1)]) fun (y1:Int) =>
 aB (decide (y1≤0)) (R (T.v (.int .i64 17)))
 (a7 (Int×PUnit)
 (fun (X2:Int×PUnit→Prop) (s3:Int×PUnit) =>
 aB (decide (s3.1<(↑(List.map aA.li.enc a0.2).length:Int)))
 (aO aA.li (List.map aA.li.enc a0.2) s3.1
 fun (y4:List aJ) =>
 aG [(false,Sy.int IntKind.i64)]
 (eC [T.sl false (List.map aA.enc y4)]) fun (y5:Int) =>
 aB (!decide (y5=0)) (R (T.v (.int .i64 y5)))
 (aG [(false,Sy.int IntKind.i64)]
 (iX [T.sl false (List.map aA.enc y4)]) fun (y6:Int) =>
 aB (decide (0≤y6)) (R (T.v (.int .i64 17)))
 (aG [(false,Sy.bool)]
 (mB
 [T.sl false (List.map aA.enc y4),
 T.sl false (List.map aA.enc a0.1)])
 fun (y7:Bool) =>
 aB (!y7) (R (T.v (.int .i64 17)))
 (bV
 (IX 1 (List.map aA.li.enc a0.2) &&
 (decide (0≤s3.1) &&
 decide (Int.toNat s3.1≤(List.map aA.li.enc a0.2).length)) &&
 true)
 (a7 (Int×PUnit)
 (fun (X8:Int×PUnit→Prop) (s9:Int×PUnit) =>
 aB
 (decide
 (s9.1 <
 (↑(List.drop 0
 (List.take (Int.toNat s3.1)
 (List.map aA.li.enc a0.2))).length :
 Int)))
 (aO aA.li
 (List.drop 0
 (List.take (Int.toNat s3.1) (List.map aA.li.enc a0.2)))
 s9.1 fun (y10:List aJ) =>
 aG [(false,Sy.bool)]
 (pM
 [T.sl false (List.map aA.enc y4),
 T.sl false (List.map aA.enc y10)])
 fun (y11:Bool) =>
 aB (!y11) (R (T.v (.int .i64 17)))
 (X8 (IntKind.i64.wrap (s9.1+1),())))
 (X2 (IntKind.i64.wrap (s3.1+1),())))
 (0,()))))))
 (R (T.v (.int .i64 0))))
 (0,()))))
theorem ADA ( a0 R):bA aW Tryz.prog NJ AEI 8 104 [aC true cD a0] R=OS a0 R:=by kernel_rfl
abbrev FT:Sh:=[(true,cD)]
def JU (s:eL):Option T:=some (T.v (Value.int .i64 (gI s)))
noncomputable def fX:List T→Option (T):=gS FT JU
theorem AG2 {a0}:fX [aC true cD a0]=JU (a0):=a6 (s:=FT) rfl (a0) rfl
theorem AUH (h:∀ a0 r,JU (a0)=some r→bY FT (a0)→OS a0 (fun y=>y=r)):aK Tryz.prog 104 fX :=
 aP (E:=NJ) (Hs:=AEI) AJ6 aU aV (aL rfl) 8 ⟨_,_,Tryz.func104,rfl⟩ rfl fun x r h1 h2=>by
  let a0:=x
  rw[show Sh.bK FT (a0)=[aC true cD a0] from rfl,ADA]
  exact h a0 r h1 h2
theorem U1:aK Tryz.prog 104 fX:=AUH fun s r h hb=>by
 cases h
 have is:∀ {n:Int},gI s=n→T.v (.int .i64 n)=T.v (.int .i64 (gI s)):=fun h=>by rw[h]
 unfold OS
 refine bJ (fun h=>is (by rw[List.length_map] at h;unfold gI;rw[if_pos (by omega)])) fun h1=>?_
 rw[List.length_map] at h1
 refine aD (s:=[(false,.int .i64)]) (oE s.1) ?_
 refine gT (fun h=>is (by unfold gI;rw[if_neg (by omega),if_pos h])) fun h2=>?_
 refine aD (s:=[(false,.int .i64)]) (xC s.1) ?_
 refine bJ (fun h=>is (by unfold gI;rw[if_neg (by omega),if_neg (by simpa using h2),if_pos h])) fun h3=>?_
 have w:gI s=bC (lP s) (List.range s.2.length):=by unfold gI;rw[if_neg (by omega),if_neg (by simpa using h2),if_neg h3]
 obtain ⟨ho3,ho32,hoN,_⟩:=dR h2
 refine gV (r:=aA.li) (lP s) (by show s.2.length≤1000000;omega) (fun X k hk hprev hok hbad=>?_) fun h0=>is (w.trans h0)
 have hk:k<s.2.length:=hk
 have hg:s.2.getD k []=s.2[k]:=by rw[List.getD_eq_getElem?_getD,List.getElem?_eq_getElem hk];rfl
 have bad:∀ {n:Int},n≠0→lP s k=n→T.v (.int .i64 n)=T.v (.int .i64 (gI s)):=fun hn h=>is (w.trans ((hbad (by rw[h];exact hn)).trans h))
 have hE:lP s k=if ¬ dB s.2[k]=0 then dB s.2[k] else if 0≤gF s.2[k]∨gB s.2[k] s.1=false then 17 else if ((List.range k).all fun j=>fP s.2[k] (s.2.getD j []))=false then 17 else 0:=by unfold lP;rw[hg]
 show aG [(false,Sy.int IntKind.i64)] (eC [T.sl false (List.map aA.enc s.2[k])]) _
 refine aD (s:=[(false,.int .i64)]) (oE s.2[k]) ?_
 refine gT (fun h=>bad h (by rw[hE,if_pos h])) fun p1=>?_
 refine aD (s:=[(false,.int .i64)]) (xC s.2[k]) ?_
 refine bJ (fun h=>bad (by decide) (by rw[hE,if_neg (by simpa using p1),if_pos (.inl h)])) fun p2=>?_
 obtain ⟨hp3,hp32,hpN,_⟩:=dR p1
 refine aD (s:=[(false,.bool)]) (ZY (by omega) hpN (by omega) hoN) ?_
 refine dK (fun h=>bad (by decide) (by rw[hE,if_neg (by simpa using p1),if_pos (.inr h)])) fun p3=>?_
 have hE2:lP s k=if ((List.range k).all fun j=>fP s.2[k] (s.2.getD j []))=false then 17 else 0:=by
  rw[hE,if_neg (by simpa using p1),if_neg]
  rintro (h|h)
  ·exact p2 h
  ·rw[show gB s.2[k] s.1=true from p3] at h;cases h
 refine ⟨by rw[AUS,List.length_map];simp;omega,?_⟩
 have htk:List.drop 0 (List.take (Int.toNat (k:Int)) (List.map aA.li.enc s.2))=List.map aA.li.enc (s.2.take k):=by rw[List.drop_zero,Int.toNat_natCast,List.map_take]
 dsimp only
 rw[htk]
 have ht:(s.2.take k).length=k:=by rw[List.length_take];omega
 refine aY k (fun j s'=>s'=((j:Int),())∧∀ i,i<j→fP s.2[k] (s.2.getD i [])=true) ⟨rfl,fun i h=>by omega⟩ ?_
 rintro Y j s' hj ⟨rfl,hJ⟩ hY
 dsimp only
 refine bJ (fun hlt=>?_) fun hge=>?_
 ·rw[List.length_map,ht] at hlt
  have hlt:j<k:=by omega
  rw[aS (r:=aA.li) (show j<(s.2.take k).length by omega)]
  have hgj:s.2.getD j []=s.2[j]:=by rw[List.getD_eq_getElem?_getD,List.getElem?_eq_getElem (by omega)];rfl
  have hgt:(s.2.take k)[j]'(by omega)=s.2[j]:=by simp
  rw[hgt]
  have hj0:dB s.2[j]=0:=by
   have h0:=hprev j hlt
   unfold lP at h0
   rw[hgj] at h0
   refine Classical.byContradiction fun hc=>?_
   rw[if_pos hc] at h0
   exact hc h0
  obtain ⟨hq3,hq32,hqN,_⟩:=dR hj0
  refine aD (s:=[(false,.bool)]) (AGZ (by omega) (by omega) (by omega) hpN (by omega) hqN) ?_
  refine dK (fun h=>bad (by decide) ?_) fun h=>hY _ hlt ⟨by rw[show IntKind.i64.wrap ((j:Int)+1)=((j+1:Nat):Int) from aQ _ (by omega) (by omega)],fun i hi=>by
   rcases Nat.lt_or_ge i j with h3|h3
   ·exact hJ i h3
   ·have:i=j:=by omega
    subst this;rw[hgj];exact h⟩
  rw[hE2,if_pos (rJ hlt (by rw[hgj];exact h))]
 ·rw[List.length_map,ht] at hge
  have:j=k:=by omega
  subst this
  rw[show IntKind.i64.wrap ((j:Int)+1)=((j+1:Nat):Int) from aQ _ (by omega) (by omega)]
  refine hok ?_
  rw[hE2,if_neg]
  rw[cE.2 hJ];simp
theorem KQ (s:eL):fX [aC true cD s]=some (Sh.enc [(false,.int .i64)] (gI s)):=AG2 ..
noncomputable def NL:Env:=Env.of []
def AEK:FuncId→Hint:=fun _=>aT
theorem AJ8:aE Tryz.prog NL:=aE.nil _
def OU (a0:eL) (R:T→Prop):Prop :=
 aB (List.map aA.li.enc a0.2).isEmpty
 (R (T.sl false [[T.sl false (List.map aA.enc a0.1)]]))
 (bV
 (kA 1 (List.map aA.li.enc a0.2) &&
 decide ((1+(List.map aA.li.enc a0.2).length)*24≤140737488355328) &&
 decide (1+(List.map aA.li.enc a0.2).length≤140737488355328))
 (R
 (T.sl false
 ([T.sl false (List.map aA.enc a0.1)] ::
 (List.map aA.li.enc a0.2)))))
theorem ADC ( a0 R):bA aW Tryz.prog NL AEK 8 139 [aC true cD a0] R=OU a0 R:=by kernel_rfl
abbrev FV:Sh:=[(true,cD)]
abbrev AZ9:Sh:=[(false,aA.li.li)]
def uM (s:eL):Option T:=match decide (s.2.length≤1000) with
 | true=>some (Sh.enc AZ9 (s.1::s.2))
 | false=>none
noncomputable def tU:List T→Option (T):=gS FV uM
theorem AG4 {a0}:tU [aC true cD a0]=uM (a0):=a6 (s:=FV) rfl (a0) rfl
theorem AUJ (h:∀ a0 r,uM (a0)=some r→bY FV (a0)→OU a0 (fun y=>y=r)):aK Tryz.prog 139 tU :=
 aP (E:=NL) (Hs:=AEK) AJ8 aU aV (aL rfl) 8 ⟨_,_,Tryz.func139,rfl⟩ rfl fun x r h1 h2=>by
  let a0:=x
  rw[show Sh.bK FV (a0)=[aC true cD a0] from rfl,ADC]
  exact h a0 r h1 h2
theorem ASV:aK Tryz.prog 139 tU:=AUJ fun s r h hb=>by
 unfold uM at h
 split at h
 ·rename_i hc
  have hc:s.2.length≤1000:=of_decide_eq_true hc
  cases h
  obtain ⟨o,hs⟩:=s
  unfold OU
  cases hs with
  | nil=>exact (rfl:T.sl false [[T.sl false (List.map aA.enc o)]]=_)
  | cons a l =>
   show bV _ _
   refine ⟨?_,rfl⟩
   simp only[Bool.and_eq_true,decide_eq_true_eq,List.length_map]
   have hc:(a::l).length≤1000:=hc
   exact ⟨⟨DJ (.li aA) (a::l),by omega⟩,by omega⟩
 ·cases h
def AVB (l:List (List Pt)):Int:=cM l.length fun i=>gF (l.getD i [])
def pW (s:eL):Int:=if gI s=0 then AVB (s.1::s.2) else 0
theorem PH (p:List Pt):-68719476736≤gF p∧gF p≤68719476736:=by
 unfold gF
 by_cases h:dB p=0
 ·rw[if_pos h]
  obtain ⟨_,h2,h3,_⟩:=dR h
  have:=yM h3 p.length
  unfold eU
  omega
 ·rw[if_neg h];omega
theorem MH (l:List (List Pt)):∀ n:Nat,-(68719476736*(n:Int))≤cM n (fun i=>gF (l.getD i []))∧cM n (fun i=>gF (l.getD i []))≤68719476736*(n:Int)
 | 0=>by simp[cM]
 | n+1=>by
  have ih:=MH l n
  have hb:=PH (l.getD n [])
  unfold cM
  constructor<;>push_cast<;>omega
noncomputable def NI:Env:=Env.of [(104,.pure fX),(139,.pure tU),(129,.pure iX)]
def AEH:FuncId→Hint:=fun f=>match f == 109 with|true=>⟨fun r=>match r == 5 with|true=>.inv [.val 3 false (.int .i64),.val 12 false (.int .i64)]|false=>.none,fun _ _=>none,fun _=>none⟩|false=>aT
theorem AJ5:aE Tryz.prog NI:=aE.cons (x:=.pure fX) U1 (aE.cons (x:=.pure tU) ASV (aE.cons (x:=.pure iX) UY (aE.nil _)))
def OR (a0:eL) (R:T→Prop):Prop :=
 aG [(false,Sy.int IntKind.i64)] (fX [aC true cD a0]) fun (y0:Int) =>
 aB (!decide (y0=0)) (R (T.v (.int .i64 0)))
 (aG [(false,aA.li.li)] (tU [aC true cD a0])
 fun (y1:List (List aJ)) =>
 a7 (Int×Int×PUnit)
 (fun (X2:Int×Int×PUnit→Prop) (s3:Int×Int×PUnit) =>
 aB (decide (s3.2.1<(↑(List.map aA.li.enc y1).length:Int)))
 (aO aA.li (List.map aA.li.enc y1) s3.2.1 fun (y4:List aJ) =>
 aG [(false,Sy.int IntKind.i64)]
 (iX [T.sl false (List.map aA.enc y4)]) fun (y5:Int) =>
 X2 (IntKind.i64.wrap (s3.1+y5),IntKind.i64.wrap (s3.2.1+1),()))
 (R (T.v (.int .i64 s3.1))))
 (0,0,()))
theorem AC9 ( a0 R):bA aW Tryz.prog NI AEH 8 109 [aC true cD a0] R=OR a0 R:=by kernel_rfl
abbrev FR:Sh:=[(true,cD)]
def JT (s:eL):Option T:=some (T.v (Value.int .i64 (pW s)))
noncomputable def pN:List T→Option (T):=gS FR JT
theorem AG0 {a0}:pN [aC true cD a0]=JT (a0):=a6 (s:=FR) rfl (a0) rfl
theorem AUG (h:∀ a0 r,JT (a0)=some r→bY FR (a0)→OR a0 (fun y=>y=r)):aK Tryz.prog 109 pN :=
 aP (E:=NI) (Hs:=AEH) AJ5 aU aV (aL rfl) 8 ⟨_,_,Tryz.func109,rfl⟩ rfl fun x r h1 h2=>by
  let a0:=x
  rw[show Sh.bK FR (a0)=[aC true cD a0] from rfl,AC9]
  exact h a0 r h1 h2
theorem ASU:aK Tryz.prog 109 pN:=AUG fun s r h hb=>by
 cases h
 have is:∀ {n:Int},pW s=n→T.v (.int .i64 n)=T.v (.int .i64 (pW s)):=fun h=>by rw[h]
 unfold OR
 refine aD (s:=[(false,.int .i64)]) (KQ s) ?_
 refine gT (fun h=>is (by unfold pW;rw[if_neg h])) fun h=>?_
 have h8:s.2.length≤8:=by
  refine Classical.byContradiction fun hc=>?_
  unfold gI at h
  rw[if_pos (by omega)] at h;cases h
 refine aD (s:=[(false,.li (.li aA))]) (y:=(s.1::s.2:List (List aJ))) ((AG4 ..).trans (by unfold uM;rw[decide_eq_true (by omega)])) ?_
 have w:pW s=AVB (s.1::s.2):=by unfold pW;rw[if_pos h]
 have hlen:(s.1::s.2).length≤9:=by simp;omega
 generalize s.1::s.2=l at w hlen
 refine aY l.length (fun k t=>t=(cM k (fun i=>gF (l.getD i [])),(k:Int),())) rfl ?_
 rintro X k t hk rfl hX
 dsimp only
 refine bJ (fun hlt=>?_) fun hge=>is (by rw[List.length_map] at hge;rw[w,show k=l.length by omega];rfl)
 rw[List.length_map] at hlt
 have hlt:k<l.length:=by omega
 rw[aS (r:=aA.li) hlt]
 have hg:l.getD k []=l[k]:=by rw[List.getD_eq_getElem?_getD,List.getElem?_eq_getElem hlt];rfl
 refine aD (s:=[(false,.int .i64)]) (xC l[k]) ?_
 refine hX _ hlt ?_
 have b1:=MH l k
 have b2:=PH l[k]
 rw[show IntKind.i64.wrap ((k:Int)+1)=((k+1:Nat):Int) from aQ _ (by omega) (by omega),aQ _ (by omega) (by omega),cM,hg]
theorem AG1 (s:eL):pN [aC true cD s]=some (Sh.enc [(false,.int .i64)] (pW s)):=AG0 ..
theorem A3L (s:eL):-618475290624≤pW s∧pW s≤618475290624:=by
 unfold pW
 by_cases h:gI s=0
 ·rw[if_pos h]
  have h8:s.2.length≤8:=by
   refine Classical.byContradiction fun hc=>?_
   unfold gI at h
   rw[if_pos (by omega)] at h;cases h
  have:=MH (s.1::s.2) (s.1::s.2).length
  unfold AVB
  simp only[List.length_cons] at this ⊢
  omega
 ·rw[if_neg h];omega
end Go.Pv
namespace Go.Pv
open Go Go.Proofs
noncomputable def GY:Env:=Env.of []
def UH:FuncId→Hint:=fun f=>match f == 132 with|true=>⟨fun r=>match r == 2 with|true=>.J5 4|false=>.none,fun _ _=>none,fun _=>none⟩|false=>aT
theorem ACB:aE Tryz.prog GY:=aE.nil _
def HQ (a0:AEU) (a1:Int) (R:T→Prop):Prop :=
 aB (decide (a0.1<IntKind.i64.wrap (0-a1))) (R (T.v (.bool false)))
 (aB (decide (a1<a0.1)) (R (T.v (.bool false)))
 (aB (decide (a0.2.1<IntKind.i64.wrap (0-a1))) (R (T.v (.bool false)))
 (aB (decide (a1<a0.2.1)) (R (T.v (.bool false)))
 (aB (decide (a0.2.2<IntKind.i64.wrap (0-a1))) (R (T.v (.bool false)))
 (aB (decide (a1<a0.2.2)) (R (T.v (.bool false)))
 (R (T.v (.bool true))))))))
theorem YM ( a0 a1 R):bA aW Tryz.prog GY UH 8 132 [aC true J6 a0,aC false (Sy.int IntKind.i64) a1] R=HQ a0 a1 R:=by kernel_rfl
abbrev AF:Sh:=[(true,J6),(false,(Sy.int IntKind.i64))]
def iF (v:AEU):Bool:=decide (-524288≤v.1)&&decide (v.1≤524288)&&(decide (-524288≤v.2.1)&&decide (v.2.1≤524288))&&(decide (-524288≤v.2.2)&&decide (v.2.2≤524288))
def v8 (x:AEU×Int):Option T:=match decide (x.2=524288) with
 | true=>some (T.v (.bool (iF x.1)))
 | false=>none
noncomputable def oX:List T→Option (T):=gS AF v8
theorem Z7 {a0 a1}:oX [aC true J6 a0,T.v (.int .i64 a1)]=v8 (a0,a1):=a6 (s:=AF) rfl (a0,a1) rfl
theorem ANZ (h:∀ a0 a1 r,v8 (a0,a1)=some r→bY AF (a0,a1)→HQ a0 a1 (fun y=>y=r)):aK Tryz.prog 132 oX :=
 aP (E:=GY) (Hs:=UH) ACB aU aV (aL rfl) 8 ⟨_,_,Tryz.func132,rfl⟩ rfl fun x r h1 h2=>by
  obtain ⟨a0,a1⟩:=x
  rw[show Sh.bK AF (a0,a1)=[aC true J6 a0,aC false (Sy.int IntKind.i64) a1] from rfl,YM]
  exact h a0 a1 r h1 h2
theorem AMB:aK Tryz.prog 132 oX:=ANZ fun v n r h hb=>by
 unfold v8 at h
 split at h
 ·rename_i hn
  have hn:n=524288:=of_decide_eq_true hn
  subst hn
  cases h
  unfold HQ
  rw[show IntKind.i64.wrap (0-524288) = -524288 from rfl]
  have no:∀ {P:Prop},(¬ (-524288≤v.1∧v.1≤524288∧-524288≤v.2.1∧v.2.1≤524288∧-524288≤v.2.2∧v.2.2≤524288))→T.v (.bool false)=T.v (.bool (iF v)):=fun h=>cL (Eq.symm (by
   rw[Bool.eq_false_iff];intro h2;simp only[iF,Bool.and_eq_true,decide_eq_true_eq] at h2;omega))
  refine bJ (fun h=>no (P:=True) (by omega)) fun h1=>bJ (fun h=>no (P:=True) (by omega)) fun h2=>bJ (fun h=>no (P:=True) (by omega)) fun h3=>bJ (fun h=>no (P:=True) (by omega)) fun h4=>bJ (fun h=>no (P:=True) (by omega)) fun h5=>bJ (fun h=>no (P:=True) (by omega)) fun h6=>cL ?_
  simp only[iF]
  rw[decide_eq_true (by omega),decide_eq_true (by omega),decide_eq_true (by omega),decide_eq_true (by omega),decide_eq_true (by omega),decide_eq_true (by omega)];rfl
 ·cases h
def AHY (t:Int):Int:=if t<0∨24≤t then 0 else t
noncomputable def GX:Env:=Env.of []
def UG:FuncId→Hint:=fun _=>aT
theorem ACA:aE Tryz.prog GX:=aE.nil _
def HP (a0:Int) (R:T→Prop):Prop :=
 aB (decide (a0<0)) (R (T.v (.int .i64 0)))
 (aB (decide (24≤a0)) (R (T.v (.int .i64 0)))
 (R (T.v (.int .i64 a0))))
theorem YL ( a0 R):bA aW Tryz.prog GX UG 8 133 [aC false (Sy.int IntKind.i64) a0] R=HP a0 R:=by kernel_rfl
abbrev AE:Sh:=[(false,(Sy.int IntKind.i64))]
def C8 (t:Int):Option T:=some (T.v (Value.int .i64 (AHY t)))
noncomputable def oW:List T→Option (T):=gS AE C8
theorem Z6 {a0}:oW [T.v (.int .i64 a0)]=C8 (a0):=a6 (s:=AE) rfl (a0) rfl
theorem ANY (h:∀ a0 r,C8 (a0)=some r→bY AE (a0)→HP a0 (fun y=>y=r)):aK Tryz.prog 133 oW :=
 aP (E:=GX) (Hs:=UG) ACA aU aV (aL rfl) 8 ⟨_,_,Tryz.func133,rfl⟩ rfl fun x r h1 h2=>by
  let a0:=x
  rw[show Sh.bK AE (a0)=[aC false (Sy.int IntKind.i64) a0] from rfl,YL]
  exact h a0 r h1 h2
theorem AMA:aK Tryz.prog 133 oW:=ANY fun t r h hb=>by
 cases h
 unfold HP
 exact bJ (fun h=>sF (by unfold AHY;rw[if_pos (.inl h)])) fun h1=>bJ (fun h=>sF (by unfold AHY;rw[if_pos (.inr h)])) fun h2=>sF (by unfold AHY;rw[if_neg (by omega)])
def iL (p:uP):Bool:=iF p.1&&decide (p.2=AHY p.2)
noncomputable def NT:Env:=Env.of [(132,.pure oX),(133,.pure oW)]
def AES:FuncId→Hint:=fun _=>aT
theorem AKG:aE Tryz.prog NT:=aE.cons (x:=.pure oX) AMB (aE.cons (x:=.pure oW) AMA (aE.nil _))
def O2 (a0:uP) (R:T→Prop):Prop :=
 aG [(false,Sy.bool)]
 (oX [aC true J6 a0.1,T.v (.int .i64 524288)])
 fun (y0:Bool) =>
 aB y0
 (aG [(false,Sy.int IntKind.i64)]
 (oW [T.v (.int .i64 a0.2)]) fun (y1:Int) =>
 R (T.v (.bool (decide (a0.2=y1)))))
 (R (T.v (.bool false)))
theorem ADK ( a0 R):bA aW Tryz.prog NT AES 8 106 [aC true cV a0] R=O2 a0 R:=by kernel_rfl
abbrev F1:Sh:=[(true,cV)]
def J3 (p:uP):Option T:=some (T.v (.bool (iL p)))
noncomputable def b8:List T→Option (T):=gS F1 J3
theorem KU {a0}:b8 [aC true cV a0]=J3 (a0):=a6 (s:=F1) rfl (a0) rfl
theorem AUR (h:∀ a0 r,J3 (a0)=some r→bY F1 (a0)→O2 a0 (fun y=>y=r)):aK Tryz.prog 106 b8 :=
 aP (E:=NT) (Hs:=AES) AKG aU aV (aL rfl) 8 ⟨_,_,Tryz.func106,rfl⟩ rfl fun x r h1 h2=>by
  let a0:=x
  rw[show Sh.bK F1 (a0)=[aC true cV a0] from rfl,ADK]
  exact h a0 r h1 h2
theorem AS0:aK Tryz.prog 106 b8:=AUR fun p r h hb=>by
 cases h
 unfold O2
 refine aD (s:=[(false,.bool)]) (y:=iF p.1) (Z7 ..) ?_
 refine tA (fun h=>?_) fun h=>cL (by unfold iL;rw[h];rfl)
 refine aD (s:=[(false,.int .i64)]) (y:=AHY p.2) (Z6 ..) ?_
 exact cL (by unfold iL;rw[h];rfl)
def nV (l:List Int) (i:Nat):Int:=if ¬ (1≤l.getD i 0∧l.getD i 0≤120) then 9 else if 0<i∧l.getD i 0≤l.getD (i-1) 0 then 11 else 0
def eX (g:cR):Int:=if isName g.1=false then 6 else if ¬ (1000≤g.2.1∧g.2.1≤20000∧100≤g.2.2.1∧g.2.2.1≤1500) then 9 else if g.2.2.2.length=0 then 3 else if 16<g.2.2.2.length then 4 else bC (nV g.2.2.2) (List.range g.2.2.2.length)
def vZ (s:bQ):Int:=if isName s.1=false then 6 else if ¬ (1≤s.2.1∧s.2.1≤1000000∧1≤s.2.2.1∧s.2.2.1≤2000∧100≤s.2.2.2∧s.2.2.2≤32768) then 9 else 0
theorem KW (s:ByteArray) (K:Bool→Prop):aG [(false,Sy.bool)] (eM [T.v (.string s)]) K=K (isName s):=by
 rw[show eM [T.v (.string s)]=AK s from xA]
 exact TN _ K
noncomputable def M4:Env:=Env.of [(22,.pure eM)]
def AD4:FuncId→Hint:=fun f=>match f == 54 with|true=>⟨fun r=>match r == 10 with|true=>.inv [.val 34 false (.int .i64)]|false=>.none,fun _ _=>none,fun _=>none⟩|false=>aT
theorem AJS:aE Tryz.prog M4:=aE.cons (x:=.pure eM) yR (aE.nil _)
def OD (a0:cR) (R:T→Prop):Prop :=
 aG [(false,Sy.bool)] (eM [T.v (.string a0.1)]) fun (y0:Bool) =>
 aB (!y0) (R (T.v (.int .i64 6)))
 (aB (decide (1000≤a0.2.1))
 (aB (!decide (a0.2.1≤20000)) (R (T.v (.int .i64 9)))
 (aB (decide (100≤a0.2.2.1))
 (aB (!decide (a0.2.2.1≤1500)) (R (T.v (.int .i64 9)))
 (aB (decide ((↑(List.map (Sy.int IntKind.i64).enc a0.2.2.2).length:Int)=0))
 (R (T.v (.int .i64 3)))
 (aB (decide (16<(↑(List.map (Sy.int IntKind.i64).enc a0.2.2.2).length:Int)))
 (R (T.v (.int .i64 4)))
 (a7 (Int×PUnit)
 (fun (X1:Int×PUnit→Prop) (s2:Int×PUnit) =>
 aB
 (decide (s2.1<(↑(List.map (Sy.int IntKind.i64).enc a0.2.2.2).length:Int)))
 (aO (Sy.int IntKind.i64)
 (List.map (Sy.int IntKind.i64).enc a0.2.2.2) s2.1 fun (y3:Int) =>
 aB (decide (1≤y3))
 (aB (!decide (y3≤120)) (R (T.v (.int .i64 9)))
 (aB (decide (0<s2.1))
 (aO (Sy.int IntKind.i64)
 (List.map (Sy.int IntKind.i64).enc a0.2.2.2)
 (IntKind.i64.wrap (s2.1-1)) fun (y4:Int) =>
 aB (decide (y3≤y4)) (R (T.v (.int .i64 11)))
 (X1 (IntKind.i64.wrap (s2.1+1),())))
 (X1 (IntKind.i64.wrap (s2.1+1),()))))
 (R (T.v (.int .i64 9))))
 (R (T.v (.int .i64 0))))
 (0,())))))
 (R (T.v (.int .i64 9)))))
 (R (T.v (.int .i64 9))))
theorem ACW ( a0 R):bA aW Tryz.prog M4 AD4 8 54 [aC true bD a0] R=OD a0 R:=by kernel_rfl
abbrev FE:Sh:=[(true,bD)]
def JK (g:cR):Option T:=some (T.v (Value.int .i64 (eX g)))
noncomputable def tS:List T→Option (T):=gS FE JK
theorem AGO {a0}:tS [aC true bD a0]=JK (a0):=a6 (s:=FE) rfl (a0) rfl
theorem AT3 (h:∀ a0 r,JK (a0)=some r→bY FE (a0)→OD a0 (fun y=>y=r)):aK Tryz.prog 54 tS :=
 aP (E:=M4) (Hs:=AD4) AJS aU aV (aL rfl) 8 ⟨_,_,Tryz.func54,rfl⟩ rfl fun x r h1 h2=>by
  let a0:=x
  rw[show Sh.bK FE (a0)=[aC true bD a0] from rfl,ACW]
  exact h a0 r h1 h2
theorem gK {α:Type} {l:List α} {i:Nat} {d:α} (h:i<l.length):l.getD i d=l[i]:=by rw[List.getD_eq_getElem?_getD,List.getElem?_eq_getElem h];rfl
theorem zF {r:Sy} {l:List r.den} {k:Nat} (hk:k<l.length) (h0:0<k) (hl:l.length≤1000000) (K:r.den→Prop):aO r (List.map r.enc l) (IntKind.i64.wrap ((k:Int)-1)) K=K (l[k-1]'(by omega)):=by
 rw[show IntKind.i64.wrap ((k:Int)-1)=((k-1:Nat):Int) by rw[aQ _ (by omega) (by omega)];omega]
 exact aS (by omega) K
theorem sR {k:Nat} (h:k<1000000):IntKind.i64.wrap ((k:Int)+1)=((k+1:Nat):Int):=aQ _ (by omega) (by omega)
theorem ASP:aK Tryz.prog 54 tS:=AT3 fun g r h hb=>by
 cases h
 have is:∀ {n:Int},eX g=n→T.v (.int .i64 n)=T.v (.int .i64 (eX g)):=fun h=>by rw[h]
 unfold OD
 rw[KW]
 refine dK (fun h=>is (by unfold eX;rw[if_pos h])) fun hn=>?_
 have hn':¬ isName g.1=false:=by rw[hn];simp
 have r9:¬ (1000≤g.2.1∧g.2.1≤20000∧100≤g.2.2.1∧g.2.2.1≤1500)→T.v (.int .i64 9)=T.v (.int .i64 (eX g)):=fun h=>is (by unfold eX;rw[if_neg hn',if_pos h])
 refine bJ (fun h1=>gT (fun h=>r9 (by omega)) fun h2=>bJ (fun h3=>gT (fun h=>r9 (by omega)) fun h4=>?_) fun h=>r9 (by omega)) fun h=>r9 (by omega)
 have hr:¬ ¬ (1000≤g.2.1∧g.2.1≤20000∧100≤g.2.2.1∧g.2.2.1≤1500):=by omega
 refine bJ (fun h=>is (by rw[List.length_map] at h;unfold eX;rw[if_neg hn',if_neg hr,if_pos (by omega)])) fun h5=>?_
 refine bJ (fun h=>is (by rw[List.length_map] at h h5;unfold eX;rw[if_neg hn',if_neg hr,if_neg (by omega),if_pos (by omega)])) fun h6=>?_
 rw[List.length_map] at h5 h6
 have w:eX g=bC (nV g.2.2.2) (List.range g.2.2.2.length):=by unfold eX;rw[if_neg hn',if_neg hr,if_neg (by omega),if_neg (by omega)]
 refine gV (r:=.int .i64) (nV g.2.2.2) (by omega) (fun X k hk hprev hok hbad=>?_) fun h0=>is (w.trans h0)
 have hk:k<g.2.2.2.length:=hk
 have bad:∀ {n:Int},n≠0→nV g.2.2.2 k=n→T.v (.int .i64 n)=T.v (.int .i64 (eX g)):=fun hn h=>is (w.trans ((hbad (by rw[h];exact hn)).trans h))
 have hE:nV g.2.2.2 k=if ¬ (1≤g.2.2.2[k]∧g.2.2.2[k]≤120) then 9 else if 0<k∧g.2.2.2[k]≤g.2.2.2.getD (k-1) 0 then 11 else 0:=by unfold nV;rw[gK hk]
 dsimp only
 rw[sR (by omega)]
 refine bJ (fun p1=>gT (fun h=>bad (by decide) (by rw[hE,if_pos (by omega)])) fun p2=>?_) fun h=>bad (by decide) (by rw[hE,if_pos (by omega)])
 refine bJ (fun p3=>?_) fun p3=>hok (by rw[hE,if_neg (by omega),if_neg (by omega)])
 have k0:0<k:=by omega
 rw[zF (r:=.int .i64) hk k0 (by omega)]
 have hg1:g.2.2.2.getD (k-1) 0=g.2.2.2[k-1]'(by omega):=gK (by omega)
 exact bJ (fun h=>bad (by decide) (by rw[hE,if_neg (by omega),hg1,if_pos ⟨k0,h⟩])) fun h=>hok (by rw[hE,if_neg (by omega),hg1,if_neg (fun hc=>h hc.2)])
noncomputable def BO:Env:=Env.of [(22,.pure eM)]
def O9:FuncId→Hint:=fun _=>aT
theorem W6:aE Tryz.prog BO:=aE.cons (x:=.pure eM) yR (aE.nil _)
def BX (a0:bQ) (R:T→Prop):Prop :=
 aG [(false,Sy.bool)] (eM [T.v (.string a0.1)]) fun (y0:Bool) =>
 aB (!y0) (R (T.v (.int .i64 6)))
 (aB (decide (1≤a0.2.1))
 (aB (!decide (a0.2.1≤1000000)) (R (T.v (.int .i64 9)))
 (aB (decide (1≤a0.2.2.1))
 (aB (!decide (a0.2.2.1≤2000)) (R (T.v (.int .i64 9)))
 (aB (decide (100≤a0.2.2.2))
 (aB (!decide (a0.2.2.2≤32768)) (R (T.v (.int .i64 9)))
 (R (T.v (.int .i64 0))))
 (R (T.v (.int .i64 9)))))
 (R (T.v (.int .i64 9)))))
 (R (T.v (.int .i64 9))))
theorem S4 ( a0 R):bA aW Tryz.prog BO O9 8 55 [aC true aZ a0] R=BX a0 R:=by kernel_rfl
abbrev vX:Sh:=[(true,aZ)]
def yB (s:bQ):Option T:=some (T.v (Value.int .i64 (vZ s)))
noncomputable def l9:List T→Option (T):=gS vX yB
theorem TF {a0}:l9 [aC true aZ a0]=yB (a0):=a6 (s:=vX) rfl (a0) rfl
theorem AH6 (h:∀ a0 r,yB (a0)=some r→bY vX (a0)→BX a0 (fun y=>y=r)):aK Tryz.prog 55 l9 :=
 aP (E:=BO) (Hs:=O9) W6 aU aV (aL rfl) 8 ⟨_,_,Tryz.func55,rfl⟩ rfl fun x r h1 h2=>by
  let a0:=x
  rw[show Sh.bK vX (a0)=[aC true aZ a0] from rfl,S4]
  exact h a0 r h1 h2
theorem AFR:aK Tryz.prog 55 l9:=AH6 fun s r h hb=>by
 cases h
 have is:∀ {n:Int},vZ s=n→T.v (.int .i64 n)=T.v (.int .i64 (vZ s)):=fun h=>by rw[h]
 unfold BX
 rw[KW]
 refine dK (fun h=>is (by unfold vZ;rw[if_pos h])) fun hn=>?_
 have hn':¬ isName s.1=false:=by rw[hn];simp
 have r9:¬ (1≤s.2.1∧s.2.1≤1000000∧1≤s.2.2.1∧s.2.2.1≤2000∧100≤s.2.2.2∧s.2.2.2≤32768)→T.v (.int .i64 9)=T.v (.int .i64 (vZ s)):=fun h=>is (by unfold vZ;rw[if_neg hn',if_pos h])
 refine bJ (fun h1=>gT (fun h=>r9 (by omega)) fun h2=>bJ (fun h3=>gT (fun h=>r9 (by omega)) fun h4=>bJ (fun h5=>gT (fun h=>r9 (by omega)) fun h6=>is ?_) fun h=>r9 (by omega)) fun h=>r9 (by omega)) fun h=>r9 (by omega)
 unfold vZ;rw[if_neg hn',if_neg (by omega)]
def dI:cR:=(⟨#[]⟩,0,0,[])
def A8 (a b:ByteArray):Bool:=eP a b||decide (a=b)
def jB (m:aN) (i:Nat):Int:=if ¬ eX (m.1.getD i dI)=0 then eX (m.1.getD i dI) else if 0<i∧A8 (m.1.getD i dI).1 (m.1.getD (i-1) dI).1=true then 11 else 0
def RX (m:aN) (i:Nat):Int:=if ¬ vZ (m.2.getD i nE)=0 then vZ (m.2.getD i nE) else if 0<i∧A8 (m.2.getD i nE).1 (m.2.getD (i-1) nE).1=true then 11 else 0
def lE (m:aN):Int:=if 16<m.1.length∨32<m.2.length then 4 else if ¬ bC (jB m) (List.range m.1.length)=0 then bC (jB m) (List.range m.1.length) else bC (RX m) (List.range m.2.length)
noncomputable def MZ:Env:=Env.of [(54,.pure tS),(55,.pure l9)]
def AD0:FuncId→Hint:=fun f=>match f == 21 with|true=>⟨fun r=>match r == 4 with|true=>.inv [.val 22 false (.int .i64)]|false=>match r == 13 with|true=>.inv [.val 50 false (.int .i64)]|false=>.none,fun _ _=>none,fun _=>none⟩|false=>aT
theorem AJO:aE Tryz.prog MZ:=aE.cons (x:=.pure tS) ASP (aE.cons (x:=.pure l9) AFR (aE.nil _))
def N9 (a0:aN) (R:T→Prop):Prop :=
 aB (decide (16<(↑(List.map bD.enc a0.1).length:Int)))
 (R (T.v (.int .i64 4)))
 (aB (decide (32<(↑(List.map aZ.enc a0.2).length:Int)))
 (R (T.v (.int .i64 4)))
 (a7 (Int×PUnit)
 (fun (X0:Int×PUnit→Prop) (s1:Int×PUnit) =>
 aB (decide (s1.1<(↑(List.map bD.enc a0.1).length:Int)))
 (aO bD (List.map bD.enc a0.1) s1.1 fun (y2:cR) =>
 aG [(false,Sy.int IntKind.i64)] (tS [aC true bD y2])
 fun (y3:Int) =>
 aB (!decide (y3=0)) (R (T.v (.int .i64 y3)))
 (aB (decide (0<s1.1))
 (aO bD (List.map bD.enc a0.1) (IntKind.i64.wrap (s1.1-1))
 fun (y4:cR) =>
 aB (eP y2.1 y4.1||decide (y2.1=y4.1))
 (R (T.v (.int .i64 11))) (X0 (IntKind.i64.wrap (s1.1+1),())))
 (X0 (IntKind.i64.wrap (s1.1+1),()))))
 (a7 (Int×PUnit)
 (fun (X5:Int×PUnit→Prop) (s6:Int×PUnit) =>
 aB (decide (s6.1<(↑(List.map aZ.enc a0.2).length:Int)))
 (aO aZ (List.map aZ.enc a0.2) s6.1 fun (y7:bQ) =>
 aG [(false,Sy.int IntKind.i64)]
 (l9 [aC true aZ y7]) fun (y8:Int) =>
 aB (!decide (y8=0)) (R (T.v (.int .i64 y8)))
 (aB (decide (0<s6.1))
 (aO aZ (List.map aZ.enc a0.2)
 (IntKind.i64.wrap (s6.1-1)) fun (y9:bQ) =>
 aB (eP y7.1 y9.1||decide (y7.1=y9.1))
 (R (T.v (.int .i64 11)))
 (X5 (IntKind.i64.wrap (s6.1+1),())))
 (X5 (IntKind.i64.wrap (s6.1+1),()))))
 (R (T.v (.int .i64 0))))
 (0,())))
 (0,())))
theorem ACS ( a0 R):bA aW Tryz.prog MZ AD0 8 21 [aC true aH a0] R=N9 a0 R:=by kernel_rfl
abbrev FA:Sh:=[(true,aH)]
def JG (m:aN):Option T:=some (T.v (Value.int .i64 (lE m)))
noncomputable def tQ:List T→Option (T):=gS FA JG
theorem AGI {a0}:tQ [aC true aH a0]=JG (a0):=a6 (s:=FA) rfl (a0) rfl
theorem ATZ (h:∀ a0 r,JG (a0)=some r→bY FA (a0)→N9 a0 (fun y=>y=r)):aK Tryz.prog 21 tQ :=
 aP (E:=MZ) (Hs:=AD0) AJO aU aV (aL rfl) 8 ⟨_,_,Tryz.func21,rfl⟩ rfl fun x r h1 h2=>by
  let a0:=x
  rw[show Sh.bK FA (a0)=[aC true aH a0] from rfl,ACS]
  exact h a0 r h1 h2
theorem ASL:aK Tryz.prog 21 tQ:=ATZ fun m r h hb=>by
 cases h
 have is:∀ {n:Int},lE m=n→T.v (.int .i64 n)=T.v (.int .i64 (lE m)):=fun h=>by rw[h]
 unfold N9
 refine bJ (fun h=>is (by rw[List.length_map] at h;unfold lE;rw[if_pos (by omega)])) fun h1=>?_
 refine bJ (fun h=>is (by rw[List.length_map] at h;unfold lE;rw[if_pos (by omega)])) fun h2=>?_
 rw[List.length_map] at h1 h2
 refine gV (r:=bD) (jB m) (by show m.1.length≤1000000;omega) (fun X k hk hprev hok hbad=>?_) fun h0=>?_
 ·have hk:k<m.1.length:=hk
  have bad:∀ {n:Int},n≠0→jB m k=n→T.v (.int .i64 n)=T.v (.int .i64 (lE m)):=fun hn h=>is (by
   have hb:=(hbad (by rw[h];exact hn)).trans h
   unfold lE;rw[if_neg (by omega),if_pos (by rw[hb];exact hn),hb])
  have hE:jB m k=if ¬ eX m.1[k]=0 then eX m.1[k] else if 0<k∧A8 m.1[k].1 (m.1.getD (k-1) dI).1=true then 11 else 0:=by unfold jB;rw[gK hk]
  dsimp only
  rw[sR (by omega)]
  refine aD (s:=[(false,.int .i64)]) (y:=eX m.1[k]) (AGO ..) ?_
  refine gT (fun h=>bad h (by rw[hE,if_pos h])) fun p1=>?_
  refine bJ (fun p3=>?_) fun p3=>hok (by rw[hE,if_neg (fun h=>h p1),if_neg (by omega)])
  have k0:0<k:=by omega
  rw[zF (r:=bD) hk k0 (by show m.1.length≤1000000;omega)]
  have hg1:m.1.getD (k-1) dI=m.1[k-1]'(by omega):=gK (by omega)
  exact tA (fun h=>bad (by decide) (by rw[hE,if_neg (fun h=>h p1),hg1,if_pos ⟨k0,h⟩])) fun h=>hok (by rw[hE,if_neg (fun h=>h p1),hg1,if_neg (fun hc=>by rw[show A8 m.1[k].1 (m.1[k-1]'(by omega)).1=false from h] at hc;cases hc.2)])
 ·have w:lE m=bC (RX m) (List.range m.2.length):=by unfold lE;rw[if_neg (by omega),if_neg (fun h=>h h0)]
  refine gV (r:=aZ) (RX m) (by show m.2.length≤1000000;omega) (fun X k hk hprev hok hbad=>?_) fun h0=>is (w.trans h0)
  have hk:k<m.2.length:=hk
  have bad:∀ {n:Int},n≠0→RX m k=n→T.v (.int .i64 n)=T.v (.int .i64 (lE m)):=fun hn h=>is (w.trans ((hbad (by rw[h];exact hn)).trans h))
  have hE:RX m k=if ¬ vZ m.2[k]=0 then vZ m.2[k] else if 0<k∧A8 m.2[k].1 (m.2.getD (k-1) nE).1=true then 11 else 0:=by unfold RX;rw[gK hk]
  dsimp only
  rw[sR (by omega)]
  refine aD (s:=[(false,.int .i64)]) (y:=vZ m.2[k]) (TF ..) ?_
  refine gT (fun h=>bad h (by rw[hE,if_pos h])) fun p1=>?_
  refine bJ (fun p3=>?_) fun p3=>hok (by rw[hE,if_neg (fun h=>h p1),if_neg (by omega)])
  have k0:0<k:=by omega
  rw[zF (r:=aZ) hk k0 (by show m.2.length≤1000000;omega)]
  have hg1:m.2.getD (k-1) nE=m.2[k-1]'(by omega):=gK (by omega)
  exact tA (fun h=>bad (by decide) (by rw[hE,if_neg (fun h=>h p1),hg1,if_pos ⟨k0,h⟩])) fun h=>hok (by rw[hE,if_neg (fun h=>h p1),hg1,if_neg (fun hc=>by rw[show A8 m.2[k].1 (m.2[k-1]'(by omega)).1=false from h] at hc;cases hc.2)])
def cH (m:aN) (n:ByteArray):Option cR:=m.1.find? fun g=>decide (g.1=n)
def A9 (m:aN):Bool:=decide (m.1.length≤1000)&&decide (m.2.length≤1000)&&m.1.all fun g=>decide (g.2.2.2.length≤1000)
def xS {α:Type} (m:aN) (r:α):Option α:=match A9 m with
 | true=>some r
 | false=>none
theorem pR {α:Type} {m:aN} {t r:α} (h:xS m t=some r):A9 m=true∧r=t:=by
 unfold xS at h;split at h
 ·rename_i hc;cases h;exact ⟨hc,rfl⟩
 ·cases h
theorem pS {α:Type} {m:aN} (t:α) (h:A9 m=true):xS m t=some t:=by unfold xS;rw[h]
theorem ARV:AVE Tryz.prog 136 1 8:=⟨fun R=>by kernel_rfl,fun fl R=>by kernel_rfl,fun fl a rows R=>by kernel_rfl⟩
noncomputable def w9:List T→Option T:=gS [(false,.li (.int .i64))] (x7 (.int .i64) 8)
theorem AF5 {u0}:w9 [T.sl false (List.map (Sy.enc (.int .i64)) u0)]=x7 (.int .i64) 8 u0:=a6 (s:=[(false,.li (.int .i64))]) rfl u0 rfl
theorem ASE:aK Tryz.prog 136 w9:=ARW aU aV ⟨_,_,Tryz.func136,rfl⟩ ARV
noncomputable def MX:Env:=Env.of [(136,.pure w9)]
def ADY:FuncId→Hint:=fun f=>match f == 134 with|true=>⟨fun r=>match r == 2 with|true=>.inv [.val 8 false (.int .i64)]|false=>.none,fun _ _=>none,fun _=>none⟩|false=>aT
theorem AJM:aE Tryz.prog MX:=aE.cons (x:=.pure w9) ASE (aE.nil _)
def N7 (a0:aN) (a1:ByteArray) (R:T→Prop):Prop :=
 a7 (Int×PUnit)
 (fun (X0:Int×PUnit→Prop) (s1:Int×PUnit) =>
 aB (decide (s1.1<(↑(List.map bD.enc a0.1).length:Int)))
 (aO bD (List.map bD.enc a0.1) s1.1 fun (y2:cR) =>
 aB (decide (y2.1=a1))
 (aB (decide (s1.1<0))
 (R
 (T.cQ
 [T.agg
 [T.v (.string { data:=#[] }),T.v (.int .i64 0),
 T.v (.int .i64 0),T.sl false []],
 T.v (.bool false)]))
 (aO bD (List.map bD.enc a0.1) s1.1 fun (y3:cR) =>
 aG [(false,(Sy.int IntKind.i64).li)]
 (w9 [T.sl false (List.map (Sy.int IntKind.i64).enc y3.2.2.2)])
 fun (y4:List Int) =>
 R
 (T.cQ
 [T.agg
 [T.v (.string y3.1),T.v (.int .i64 y3.2.1),
 T.v (.int .i64 y3.2.2.1),
 T.sl false (List.map (Sy.int IntKind.i64).enc y4)],
 T.v (.bool true)])))
 (X0 (IntKind.i64.wrap (s1.1+1),())))
 (R
 (T.cQ
 [T.agg
 [T.v (.string { data:=#[] }),T.v (.int .i64 0),
 T.v (.int .i64 0),T.sl false []],
 T.v (.bool false)])))
 (0,())
theorem ACQ ( a0 a1 R):bA aW Tryz.prog MX ADY 8 107 [aC true aH a0,aC false Sy.str a1] R=N7 a0 a1 R:=by kernel_rfl
abbrev E8:Sh:=[(true,aH),(false,Sy.str)]
def JE (x:aN×ByteArray):Option T:=xS x.1 (Sh.enc [(true,bD),(false,.bool)] (found dI (cH x.1 x.2)))
noncomputable def dV:List T→Option (T):=gS E8 JE
theorem AGF {a0 a1}:dV [aC true aH a0,T.v (.string a1)]=JE (a0,a1):=a6 (s:=E8) rfl (a0,a1) rfl
theorem ATX (h:∀ a0 a1 r,JE (a0,a1)=some r→bY E8 (a0,a1)→N7 a0 a1 (fun y=>y=r)):aK Tryz.prog 107 dV :=
 aP (E:=MX) (Hs:=ADY) AJM aU aV (aL rfl) 8 ⟨_,_,Tryz.func107,rfl⟩ rfl fun x r h1 h2=>by
  obtain ⟨a0,a1⟩:=x
  rw[show Sh.bK E8 (a0,a1)=[aC true aH a0,aC false Sy.str a1] from rfl,ACQ]
  exact h a0 a1 r h1 h2
theorem IA:aK Tryz.prog 107 dV:=ATX fun m n r h hb=>by
 obtain ⟨hok,rfl⟩:=pR h
 clear h
 simp only[A9,Bool.and_eq_true,decide_eq_true_eq] at hok
 unfold N7
 refine aY m.1.length (fun k s=>s=((k:Int),())∧(m.1.drop k).find? (fun s=>decide (s.1=n))=cH m n) ⟨rfl,rfl⟩ ?_
 rintro X k s hk ⟨rfl,hf⟩ hX
 dsimp only
 refine bJ (fun hlt=>?_) fun hge=>?_
 ·rw[List.length_map] at hlt
  have hlt:k<m.1.length:=by omega
  rw[lW hlt] at hf
  rw[aS (r:=bD) hlt]
  refine bJ (fun hc=>?_) fun hc=>?_
  ·rw[if_pos (decide_eq_true hc)] at hf
   refine bJ (fun h=>by omega) fun _=>?_
   rw[aS (r:=bD) hlt]
   have hg:m.1[k].2.2.2.length≤1000:=by
    have:=List.all_eq_true.1 hok.2 _ (List.getElem_mem hlt)
    exact of_decide_eq_true this
   refine aD (s:=[(false,.li (.int .i64))]) (y:=m.1[k].2.2.2) ?_ ?_
   ·rw[AF5]
    unfold x7 ME
    rw[show (decide (m.1[k].2.2.2.length*8≤140737488355328)&&decide (m.1[k].2.2.2.length≤140737488355328))=true by simp only[Bool.and_eq_true,decide_eq_true_eq];omega]
    rfl
   ·show _=Sh.enc [(true,bD),(false,.bool)] (found dI (cH m n))
    rw[←hf];rfl
  ·rw[if_neg (by simpa using hc)] at hf
   exact hX _ hlt ⟨by rw[sR (by omega)],hf⟩
 ·rw[List.length_map] at hge
  have:k=m.1.length:=by omega
  subst this
  rw[List.drop_length] at hf
  show _=Sh.enc [(true,bD),(false,.bool)] (found dI (cH m n))
  rw[←hf];rfl
def gX (m:aN) (n:ByteArray) (t:Int):Bool:=match cH m n with
 | some g=>g.2.2.2.any fun x=>decide (t=x)
 | none=>false
noncomputable def GD:Env:=Env.of [(107,.pure dV)]
def TY:FuncId→Hint:=fun f=>match f == 169 with|true=>⟨fun r=>match r == 2 with|true=>.inv [.val 8 false (.int .i64)]|false=>.none,fun _ _=>none,fun _=>none⟩|false=>aT
theorem ABS:aE Tryz.prog GD:=aE.cons (x:=.pure dV) IA (aE.nil _)
def G7 (a0:aN) (a1:ByteArray) (a2:Int) (R:T→Prop):Prop :=
 aG [(true,bD),(false,Sy.bool)]
 (dV [aC true aH a0,T.v (.string a1)])
 fun (y0:cR×Bool) =>
 aB y0.2
 (a7 (Int×PUnit)
 (fun (X1:Int×PUnit→Prop) (s2:Int×PUnit) =>
 aB (decide (s2.1<(↑(List.map (Sy.int IntKind.i64).enc y0.1.2.2.2).length:Int)))
 (aO (Sy.int IntKind.i64) (List.map (Sy.int IntKind.i64).enc y0.1.2.2.2)
 s2.1 fun (y3:Int) =>
 aB (decide (a2=y3)) (R (T.v (.bool (decide (0≤s2.1)))))
 (X1 (IntKind.i64.wrap (s2.1+1),())))
 (R (T.v (.bool false))))
 (0,()))
 (R (T.v (.bool false)))
theorem XL ( a0 a1 a2 R):bA aW Tryz.prog GD TY 8 127 [aC true aH a0,aC false Sy.str a1,
 aC false (Sy.int IntKind.i64) a2] R=G7 a0 a1 a2 R:=by kernel_rfl
abbrev zO:Sh:=[(true,aH),(false,Sy.str),(false,(Sy.int IntKind.i64))]
def CT (x:aN×ByteArray×Int):Option T:=xS x.1 (T.v (.bool (gX x.1 x.2.1 x.2.2)))
noncomputable def iH:List T→Option (T):=gS zO CT
theorem ZL {a0 a1 a2}:iH [aC true aH a0,T.v (.string a1),T.v (.int .i64 a2)]=CT (a0,a1,a2):=a6 (s:=zO) rfl (a0,a1,a2) rfl
theorem ANG (h:∀ a0 a1 a2 r,CT (a0,a1,a2)=some r→bY zO (a0,a1,a2)→G7 a0 a1 a2 (fun y=>y=r)):aK Tryz.prog 127 iH :=
 aP (E:=GD) (Hs:=TY) ABS aU aV (aL rfl) 8 ⟨_,_,Tryz.func127,rfl⟩ rfl fun x r h1 h2=>by
  obtain ⟨a0,a1,a2⟩:=x
  rw[show Sh.bK zO (a0,a1,a2)=[aC true aH a0,aC false Sy.str a1,
 aC false (Sy.int IntKind.i64) a2] from rfl,XL]
  exact h a0 a1 a2 r h1 h2
theorem xB {m:aN} (h:A9 m=true) (n:ByteArray):dV [aC true aH m,T.v (.string n)]=some (Sh.enc [(true,bD),(false,.bool)] (found dI (cH m n))):=(AGF ..).trans (pS _ h)
theorem ALW:aK Tryz.prog 127 iH:=ANG fun m n t r h hb=>by
 obtain ⟨hok,rfl⟩:=pR h
 clear h
 unfold G7
 refine aD (s:=[(true,bD),(false,.bool)]) (xB hok n) ?_
 cases hg:cH m n with
 | none =>
  show aB false _ _
  rw[fS]
  exact cL (by unfold gX;rw[hg])
 | some g =>
  show aB true _ _
  rw[eO]
  dsimp only[found]
  have hlen:g.2.2.2.length≤1000:=by
   simp only[A9,Bool.and_eq_true,decide_eq_true_eq] at hok
   exact of_decide_eq_true (List.all_eq_true.1 hok.2 _ (List.mem_of_find?_eq_some hg))
  have w:gX m n t=g.2.2.2.any fun x=>decide (t=x):=by unfold gX;rw[hg]
  refine aY g.2.2.2.length (fun k s=>s=((k:Int),())∧g.2.2.2.any (fun x=>decide (t=x))=(g.2.2.2.drop k).any fun x=>decide (t=x)) ⟨rfl,by rw[List.drop_zero]⟩ ?_
  rintro X k s hk ⟨rfl,hf⟩ hX
  dsimp only
  refine bJ (fun hlt=>?_) fun hge=>cL ?_
  ·rw[List.length_map] at hlt
   have hlt:k<g.2.2.2.length:=by omega
   rw[List.drop_eq_getElem_cons hlt,List.any_cons] at hf
   rw[aS (r:=.int .i64) hlt]
   refine bJ (fun hc=>cL ?_) fun hc=>hX _ hlt ⟨by rw[sR (by omega)],by rw[hf,decide_eq_false hc,Bool.false_or]⟩
   rw[w,hf,decide_eq_true hc,decide_eq_true (show 0≤(k:Int) by omega)];rfl
  ·rw[List.length_map] at hge
   have:k=g.2.2.2.length:=by omega
   subst this
   rw[w,hf,List.drop_length];rfl
end Go.Pv
