/-
  Facts on the program that every function's file asks for.
  The seam, the part, the section with an identifier.
  The part with an identifier, as the program finds it; how thick a seam is.
  Words that several files share.
  The way from the block down to a part.
  Chapter 17: the indices of a design, walked.
  Chapter 17: rising, walked.
  strings.Split on typed data.
  Names and identifiers.
  Chapter 17: the tree's form, walked.
  The examples of chapter 17, run by the kernel.
  Chapter 17: the tree's other methods where a design's elements are empty, and Check there.
  Plane geometry, plain.
  poly: crosses and edges.
  poly: simple contours and their areas.
  poly.Where; region: edges, within, apart, Check, Area2.
  region: Check, Area2.
  vec.Valid; material: Check, Grade, Rolled.
-/
import Derived.Test.YtcdomkejkfcjlaaGreatDoorPtki
import Derived.Test.YtcdomkejkfcjlaaGreatDoorPtty
import Derived.Test.YtcdomkejkfcjlaaGreatDoorProg
import Derived.KernelRfl
import Derived.Test.YtcdomkejkfcjlaaGreatDoorPtkn
import Derived.Test.YtcdomkejkfcjlaaGreatDoorPtgs
import Derived.Test.YtcdomkejkfcjlaaGreatDoorPtsl
import Derived.Laws.RangeAny
import Derived.Test.YtcdomkejkfcjlaaGreatDoorPtkm
set_option linter.unusedSimpArgs false
set_option linter.unusedVariables false
namespace Go.Pv
open Go Go.Proofs
theorem aW:Tryz.prog.follows .mixedOrders=true:=by kernel_rfl
theorem aX:eW Tryz.prog=true:=by kernel_rfl
end Go.Pv
set_option maxRecDepth 100000
namespace Go.Pv
open Go Go.Proofs
def partOf (d:aF) (id:ByteArray):Option bM:=d.2.2.1.find? fun s=>decide (s.1=id)
def cB (d:aF) (id:ByteArray):Option gT:=d.2.1.find? fun s=>decide (s.1=id)
def qA (m:aN) (n:ByteArray):Option bU:=m.2.find? fun s=>decide (s.1=n)
def AN0:gT:=(⟨#[]⟩,0,⟨#[]⟩)
def A0S:bM:=(⟨#[]⟩,0,0,⟨#[]⟩,⟨#[]⟩,0,([],[]),⟨#[]⟩,0,0,(0,0,0),(0,0,0),0)
def nQ:bU:=(⟨#[]⟩,0,0,0)
def found {α:Type} (no:α) (o:Option α):α×Bool:=match o with
 | some s=>(s,true)
 | none=>(no,false)
def GF (x:aF×ByteArray):Option T:=some (Sh.enc [(true,aU),(false,.bool)] (found A0S (partOf x.1 x.2)))
def AX (x:aF×ByteArray):Option T:=some (Sh.enc [(true,bE),(false,.bool)] (found AN0 (cB x.1 x.2)))
def qG (x:aN×ByteArray):Option T:=some (Sh.enc [(true,a7),(false,.bool)] (found nQ (qA x.1 x.2)))
abbrev mX:=GF
abbrev lG:=AX
noncomputable def NN:Env:=Env.of []
def AEW:FuncId→Hint:=fun f=>match f == 85 with|true=>⟨fun r=>match r == 2 with|true=>.inv [.val 6 false (.int .i64),.fix 1]|false=>.none,fun _ _=>none,fun _=>none⟩|false=>aV
theorem AKM:aH Tryz.prog NN:=aH.nil _
def OV (a0:aF) (a1:ByteArray) (R:T→Prop):Prop :=
 fE
 (bB.rows false
 [[D.p (T.v (.string { data:=#[] })),D.p (T.v (.int .i64 0)),
 D.p (T.v (.int .i64 0)),D.p (T.v (.string { data:=#[] })),
 D.p (T.v (.string { data:=#[] })),D.p (T.v (.int .i64 0)),
 D.p (T.v (Value.slice none 0 0)),D.p (T.v (Value.slice none 0 0)),
 D.p (T.v (.string { data:=#[] })),D.p (T.v (.int .i64 0)),
 D.p (T.v (.int .i64 0)),D.p (T.v (.int .i64 0)),
 D.p (T.v (.int .i64 0)),D.p (T.v (.int .i64 0)),
 D.p (T.v (.int .i64 0)),D.p (T.v (.int .i64 0)),
 D.p (T.v (.int .i64 0)),D.p (T.v (.int .i64 0))]])
 (bB.rows false
 [[D.p (T.v (.string { data:=#[] })),D.p (T.v (.int .i64 0)),
 D.p (T.v (.int .i64 0)),D.p (T.v (.string { data:=#[] })),
 D.p (T.v (.string { data:=#[] })),D.p (T.v (.int .i64 0)),
 D.p (T.v (Value.slice none 0 0)),D.p (T.v (Value.slice none 0 0)),
 D.p (T.v (.string { data:=#[] })),D.p (T.v (.int .i64 0)),
 D.p (T.v (.int .i64 0)),D.p (T.v (.int .i64 0)),
 D.p (T.v (.int .i64 0)),D.p (T.v (.int .i64 0)),
 D.p (T.v (.int .i64 0)),D.p (T.v (.int .i64 0)),
 D.p (T.v (.int .i64 0)),D.p (T.v (.int .i64 0))]])
 (bA (Int×PUnit×PUnit)
 (fun (X0:Int×PUnit×PUnit→Prop) (s1:Int×PUnit×PUnit) =>
 aB (decide (s1.1<(↑(List.map aU.enc a0.2.2.1).length:Int)))
 (aO aU (List.map aU.enc a0.2.2.1) s1.1 fun (y2:bM) =>
 aB (decide (y2.1=a1))
 (aO aU (List.map aU.enc a0.2.2.1) s1.1 fun (y3:bM) =>
 R (T.cR [aC true aU y3,T.v (.bool true)]))
 (fE
 (bB.rows false
 [[D.p (T.v (.string { data:=#[] })),
 D.p (T.v (.int .i64 0)),
 D.p (T.v (.int .i64 0)),
 D.p (T.v (.string { data:=#[] })),
 D.p (T.v (.string { data:=#[] })),
 D.p (T.v (.int .i64 0)),
 D.p (T.v (Value.slice none 0 0)),D.p (T.v (Value.slice none 0 0)),
 D.p (T.v (.string { data:=#[] })),
 D.p (T.v (.int .i64 0)),
 D.p (T.v (.int .i64 0)),
 D.p (T.v (.int .i64 0)),
 D.p (T.v (.int .i64 0)),
 D.p (T.v (.int .i64 0)),
 D.p (T.v (.int .i64 0)),
 D.p (T.v (.int .i64 0)),
 D.p (T.v (.int .i64 0)),
 D.p (T.v (.int .i64 0))]])
 (bB.rows false
 [[D.p (T.v (.string { data:=#[] })),
 D.p (T.v (.int .i64 0)),
 D.p (T.v (.int .i64 0)),
 D.p (T.v (.string { data:=#[] })),
 D.p (T.v (.string { data:=#[] })),
 D.p (T.v (.int .i64 0)),
 D.p (T.v (Value.slice none 0 0)),D.p (T.v (Value.slice none 0 0)),
 D.p (T.v (.string { data:=#[] })),
 D.p (T.v (.int .i64 0)),
 D.p (T.v (.int .i64 0)),
 D.p (T.v (.int .i64 0)),
 D.p (T.v (.int .i64 0)),
 D.p (T.v (.int .i64 0)),
 D.p (T.v (.int .i64 0)),
 D.p (T.v (.int .i64 0)),
 D.p (T.v (.int .i64 0)),
 D.p (T.v (.int .i64 0))]])
 (X0 (IntKind.i64.wrap (s1.1+1),(),()))))
 (R
 (T.cR
 [T.agg
 [T.v (.string { data:=#[] }),T.v (.int .i64 0),
 T.v (.int .i64 0),T.v (.string { data:=#[] }),
 T.v (.string { data:=#[] }),T.v (.int .i64 0),
 T.sl false [],T.sl false [],T.v (.string { data:=#[] }),
 T.v (.int .i64 0),T.v (.int .i64 0),
 T.v (.int .i64 0),T.v (.int .i64 0),
 T.v (.int .i64 0),T.v (.int .i64 0),
 T.v (.int .i64 0),T.v (.int .i64 0),
 T.v (.int .i64 0)],
 T.v (.bool false)])))
 (0,(),()))
theorem ADO ( a0 a1 R):bC aY Tryz.prog NN AEW 8 85 [aC true aL a0,aC false Sy.str a1] R=OV a0 a1 R:=by kernel_rfl
abbrev FW:Sh:=[(true,aL),(false,Sy.str)]
abbrev E6:Sh:=[(true,aU),(false,Sy.bool)]
theorem BN (y:Sh.den E6) (K:Sh.den E6→Prop):aG E6 (some (Sh.enc E6 y)) K=K y:=mF rfl y K
noncomputable def eT:List T→Option (T):=gS FW mX
theorem xJ {a0 a1}:eT [aC true aL a0,T.v (.string a1)]=mX (a0,a1):=a8 (s:=FW) rfl (a0,a1) rfl
theorem AVE (h:∀ a0 a1 r,mX (a0,a1)=some r→b8 FW (a0,a1)→OV a0 a1 (fun y=>y=r)):aK Tryz.prog 85 eT :=
 aR (E:=NN) (Hs:=AEW) AKM aW aX (aM rfl) 8 ⟨_,_,Tryz.func85,rfl⟩ rfl fun x r h1 h2=>by
  obtain ⟨a0,a1⟩:=x
  rw[show Sh.bN FW (a0,a1)=[aC true aL a0,aC false Sy.str a1] from rfl,ADO]
  exact h a0 a1 r h1 h2
theorem yZ:aK Tryz.prog 85 eT:=AVE fun d id r h hb=>by
 have hl:d.2.2.1.length≤2 ^ 47:=hb.1.2.2.1.1
 unfold OV
 rw[cI]
 refine aZ d.2.2.1.length (fun k s=>s=((k:Int),(),())∧(d.2.2.1.drop k).find? (fun s=>decide (s.1=id))=partOf d id) ⟨rfl,rfl⟩ ?_
 rintro X k s hk ⟨rfl,hf⟩ hX
 simp only[List.length_map,AAX,cI]
 by_cases hlt:k<d.2.2.1.length
 ·rw[mH hlt] at hf
  simp only[hlt,decide_true,aB,aT (r:=aU) hlt]
  cases hc:decide (d.2.2.1[k].1=id) with
  | true =>
   simp only[hc,if_true] at hf
   simp only[mX,GF,←hf] at h
   cases h;rfl
  | false =>
   simp only[hc] at hf
   refine hX _ hlt ⟨?_,hf⟩
   simp only[Prod.mk.injEq,and_true]
   exact aS _ (by omega) (by omega)
 ·have:k=d.2.2.1.length:=by omega
  subst this
  simp only[List.drop_length,List.find?_nil] at hf
  simp only[mX,GF,←hf] at h
  simp only[hlt,decide_false,aB]
  cases h;rfl
noncomputable def NK:Env:=Env.of []
def AET:FuncId→Hint:=fun f=>match f == 41 with|true=>⟨fun r=>match r == 2 with|true=>.inv [.val 6 false (.int .i64),.fix 1]|false=>.none,fun _ _=>none,fun _=>none⟩|false=>aV
theorem AKJ:aH Tryz.prog NK:=aH.nil _
def OS (a0:aF) (a1:ByteArray) (R:T→Prop):Prop :=
 fE
 (bB.rows false
 [[D.p (T.v (.string { data:=#[] })),D.p (T.v (.int .i64 0)),
 D.p (T.v (.string { data:=#[] }))]])
 (bB.rows false
 [[D.p (T.v (.string { data:=#[] })),D.p (T.v (.int .i64 0)),
 D.p (T.v (.string { data:=#[] }))]])
 (bA (Int×PUnit×PUnit)
 (fun (X0:Int×PUnit×PUnit→Prop) (s1:Int×PUnit×PUnit) =>
 aB (decide (s1.1<(↑(List.map bE.enc a0.2.1).length:Int)))
 (aO bE (List.map bE.enc a0.2.1) s1.1 fun (y2:gT) =>
 aB (decide (y2.1=a1))
 (aO bE (List.map bE.enc a0.2.1) s1.1 fun (y3:gT) =>
 R (T.cR [aC true bE y3,T.v (.bool true)]))
 (fE
 (bB.rows false
 [[D.p (T.v (.string { data:=#[] })),
 D.p (T.v (.int .i64 0)),
 D.p (T.v (.string { data:=#[] }))]])
 (bB.rows false
 [[D.p (T.v (.string { data:=#[] })),
 D.p (T.v (.int .i64 0)),
 D.p (T.v (.string { data:=#[] }))]])
 (X0 (IntKind.i64.wrap (s1.1+1),(),()))))
 (R
 (T.cR
 [T.agg
 [T.v (.string { data:=#[] }),T.v (.int .i64 0),
 T.v (.string { data:=#[] })],
 T.v (.bool false)])))
 (0,(),()))
theorem ADL ( a0 a1 R):bC aY Tryz.prog NK AET 8 41 [aC true aL a0,aC false Sy.str a1] R=OS a0 a1 R:=by kernel_rfl
abbrev FT:Sh:=[(true,aL),(false,Sy.str)]
abbrev E5:Sh:=[(true,bE),(false,Sy.bool)]
theorem rY (y:Sh.den E5) (K:Sh.den E5→Prop):aG E5 (some (Sh.enc E5 y)) K=K y:=mF rfl y K
noncomputable def cY:List T→Option (T):=gS FT lG
theorem q8 {a0 a1}:cY [aC true aL a0,T.v (.string a1)]=lG (a0,a1):=a8 (s:=FT) rfl (a0,a1) rfl
theorem AVB (h:∀ a0 a1 r,lG (a0,a1)=some r→b8 FT (a0,a1)→OS a0 a1 (fun y=>y=r)):aK Tryz.prog 41 cY :=
 aR (E:=NK) (Hs:=AET) AKJ aW aX (aM rfl) 8 ⟨_,_,Tryz.func41,rfl⟩ rfl fun x r h1 h2=>by
  obtain ⟨a0,a1⟩:=x
  rw[show Sh.bN FT (a0,a1)=[aC true aL a0,aC false Sy.str a1] from rfl,ADL]
  exact h a0 a1 r h1 h2
theorem oS:aK Tryz.prog 41 cY:=AVB fun d id r h hb=>by
 have hl:d.2.1.length≤2 ^ 47:=hb.1.2.1.1
 unfold OS
 rw[cI]
 refine aZ d.2.1.length (fun k s=>s=((k:Int),(),())∧(d.2.1.drop k).find? (fun s=>decide (s.1=id))=cB d id) ⟨rfl,rfl⟩ ?_
 rintro X k s hk ⟨rfl,hf⟩ hX
 simp only[List.length_map,AAX,cI]
 by_cases hlt:k<d.2.1.length
 ·rw[mH hlt] at hf
  simp only[hlt,decide_true,aB,aT (r:=bE) hlt]
  cases hc:decide (d.2.1[k].1=id) with
  | true =>
   simp only[hc,if_true] at hf
   simp only[lG,AX,←hf] at h
   cases h;rfl
  | false =>
   simp only[hc] at hf
   refine hX _ hlt ⟨?_,hf⟩
   simp only[Prod.mk.injEq,and_true]
   exact aS _ (by omega) (by omega)
 ·have:k=d.2.1.length:=by omega
  subst this
  simp only[List.drop_length,List.find?_nil] at hf
  simp only[lG,AX,←hf] at h
  simp only[hlt,decide_false,aB]
  cases h;rfl
noncomputable def G8:Env:=Env.of []
def UP:FuncId→Hint:=fun f=>match f == 137 with|true=>⟨fun r=>match r == 2 with|true=>.inv [.val 8 false (.int .i64)]|false=>.none,fun _ _=>none,fun _=>none⟩|false=>aV
theorem ACV:aH Tryz.prog G8:=aH.nil _
def H3 (a0:aN) (a1:ByteArray) (R:T→Prop):Prop :=
 bA (Int×PUnit)
 (fun (X0:Int×PUnit→Prop) (s1:Int×PUnit) =>
 aB (decide (s1.1<(↑(List.map a7.enc a0.2).length:Int)))
 (aO a7 (List.map a7.enc a0.2) s1.1 fun (y2:bU) =>
 aB (decide (y2.1=a1))
 (aB (decide (s1.1<0))
 (R
 (T.cR
 [T.agg
 [T.v (.string { data:=#[] }),T.v (.int .i64 0),
 T.v (.int .i64 0),T.v (.int .i64 0)],
 T.v (.bool false)]))
 (aO a7 (List.map a7.enc a0.2) s1.1 fun (y3:bU) =>
 R (T.cR [aC true a7 y3,T.v (.bool true)])))
 (X0 (IntKind.i64.wrap (s1.1+1),())))
 (R
 (T.cR
 [T.agg
 [T.v (.string { data:=#[] }),T.v (.int .i64 0),
 T.v (.int .i64 0),T.v (.int .i64 0)],
 T.v (.bool false)])))
 (0,())
theorem Y2 ( a0 a1 R):bC aY Tryz.prog G8 UP 8 108 [aC true aE a0,aC false Sy.str a1] R=H3 a0 a1 R:=by kernel_rfl
abbrev AL:Sh:=[(true,aE),(false,Sy.str)]
noncomputable def cA:List T→Option (T):=gS AL qG
theorem AAL {a0 a1}:cA [aC true aE a0,T.v (.string a1)]=qG (a0,a1):=a8 (s:=AL) rfl (a0,a1) rfl
theorem AOO (h:∀ a0 a1 r,qG (a0,a1)=some r→b8 AL (a0,a1)→H3 a0 a1 (fun y=>y=r)):aK Tryz.prog 108 cA :=
 aR (E:=G8) (Hs:=UP) ACV aW aX (aM rfl) 8 ⟨_,_,Tryz.func108,rfl⟩ rfl fun x r h1 h2=>by
  obtain ⟨a0,a1⟩:=x
  rw[show Sh.bN AL (a0,a1)=[aC true aE a0,aC false Sy.str a1] from rfl,Y2]
  exact h a0 a1 r h1 h2
theorem QR:aK Tryz.prog 108 cA:=AOO fun m n r h hb=>by
 have hl:m.2.length≤2 ^ 47:=hb.1.2.1
 unfold H3
 refine aZ m.2.length (fun k s=>s=((k:Int),())∧(m.2.drop k).find? (fun s=>decide (s.1=n))=qA m n) ⟨rfl,rfl⟩ ?_
 rintro X k s hk ⟨rfl,hf⟩ hX
 simp only[List.length_map,AAX]
 by_cases hlt:k<m.2.length
 ·rw[mH hlt] at hf
  have h0:¬ ((k:Int)<0):=by omega
  simp only[hlt,decide_true,aB,aT (r:=a7) hlt,h0,decide_false]
  cases hc:decide (m.2[k].1=n) with
  | true =>
   simp only[hc,if_true] at hf
   simp only[qG,←hf] at h
   cases h;rfl
  | false =>
   simp only[hc] at hf
   refine hX _ hlt ⟨?_,hf⟩
   simp only[Prod.mk.injEq,and_true]
   exact aS _ (by omega) (by omega)
 ·have:k=m.2.length:=by omega
  subst this
  simp only[List.drop_length,List.find?_nil] at hf
  simp only[qG,←hf] at h
  simp only[hlt,decide_false,aB]
  cases h;rfl
end Go.Pv
namespace Go.Pv
open Go Go.Proofs
def RR (b:Nat) (n:Nat):Bool:=decide (n*b≤140737488355328)&&decide (n≤140737488355328)
def AQ3 (s:eQ):Bool:=RR 16 s.1.length&&RR 24 s.2.length&&s.2.all fun h=>RR 16 h.length
def A1B (p:bM):Bool:=AQ3 p.2.2.2.2.2.2.1
def okD (d:aF):Bool:=d.2.2.1.all A1B
end Go.Pv
namespace Go.Pv
open Go Go.Proofs
abbrev AQ5 (p:bM):ByteArray:=p.2.2.2.1
def V2 (d:aF) (t:T):Option T:=match okD d with
 | true=>some t
 | false=>none
abbrev r_b:Sh:=[(false,.bool)]
theorem A1D {d:aF} {t r:T} (h:V2 d t=some r):okD d=true∧r=t:=by
 unfold V2 at h;split at h
 ·cases h;exact ⟨by assumption,rfl⟩
 ·cases h
theorem cV {p:Prop} {i:Decidable p} (h:p) {A B:Prop} (ha:A):aB (@decide p i) A B:=by rw[show @decide p i=true from decide_eq_true h];exact ha
theorem dN {p:Prop} {i:Decidable p} (h:¬ p) {A B:Prop} (hb:B):aB (@decide p i) A B:=by rw[show @decide p i=false from decide_eq_false h];exact hb
theorem I3 {p:Prop} {i:Decidable p} (h:p) {A B:Prop} (hb:B):aB (!(@decide p i)) A B:=by rw[show @decide p i=true from decide_eq_true h];exact hb
theorem RB {p:Prop} {i:Decidable p} (h:¬ p) {A B:Prop} (ha:A):aB (!(@decide p i)) A B:=by rw[show @decide p i=false from decide_eq_false h];exact ha
theorem bL {p:Prop} {i:Decidable p} {A B:Prop} (h1:p→A) (h2:¬ p→B):aB (@decide p i) A B:=by
 by_cases h:p
 ·rw[decide_eq_true h];exact h1 h
 ·rw[decide_eq_false h];exact h2 h
theorem gP {p:Prop} {i:Decidable p} {A B:Prop} (h1:¬ p→A) (h2:p→B):aB (!(@decide p i)) A B:=by
 by_cases h:p
 ·rw[decide_eq_true h];exact h2 h
 ·rw[decide_eq_false h];exact h1 h
theorem rS {c:Bool} {A B:Prop} (h1:c=true→A) (h2:c=false→B):aB c A B:=by cases c with
 | true=>exact h1 rfl
 | false=>exact h2 rfl
theorem dM {c:Bool} {A B:Prop} (h1:c=false→A) (h2:c=true→B):aB (!c) A B:=by cases c with
 | true=>exact h2 rfl
 | false=>exact h1 rfl
def bD {α:Type} (f:α→Int):List α→Int
 | []=>0
 | a::l=>if f a=0 then bD f l else f a
theorem fK {r:Sy} {l:List r.den} (f:r.den→Int) (hl:l.length≤140737488355328) {Body:(Int×PUnit→Prop)→Int×PUnit→r.den→Prop} {Exit:Prop}
  (hbody:∀ (X:Int×PUnit→Prop) (s:Int×PUnit) (y:r.den),y∈l→(f y=0→X (IntKind.i64.wrap (s.1+1),()))→(f y≠0→bD f l=f y)→Body X s y) (hexit:bD f l=0→Exit) :
  bA (Int×PUnit) (fun (X:Int×PUnit→Prop) (s:Int×PUnit)=>aB (decide (s.1<((List.map r.enc l).length:Int))) (aO r (List.map r.enc l) s.1 fun y=>Body X s y) Exit) (0,()):=by
 refine aZ l.length (fun k s=>s=((k:Int),())∧bD f l=bD f (l.drop k)) ⟨rfl,by rw[List.drop_zero]⟩ ?_
 rintro X k s hk ⟨rfl,he⟩ hX
 dsimp only
 refine bL (fun hlt=>?_) fun hge=>?_
 ·rw[List.length_map] at hlt
  have hlt:k<l.length:=by omega
  rw[aT hlt]
  have hd:l.drop k=l[k]::l.drop (k+1):=List.drop_eq_getElem_cons hlt
  rw[hd,bD] at he
  refine hbody X _ _ (List.getElem_mem hlt) (fun h0=>?_) fun h0=>by rw[he,if_neg h0]
  rw[if_pos h0] at he
  exact hX _ hlt ⟨by rw[show IntKind.i64.wrap ((k:Int)+1)=((k+1:Nat):Int) from aS _ (by omega) (by omega)],he⟩
 ·rw[List.length_map] at hge
  have:k=l.length:=by omega
  subst this
  rw[List.drop_length] at he
  exact hexit he
end Go.Pv
namespace Go.Pv
open Go Go.Proofs
def upF (d:aF):Nat→ByteArray→List ByteArray→List ByteArray×Bool
 | 0,_,_=>([],false)
 | n+1,id,l=>match cB d id with
  | none=>([],false)
  | some x=>if x.2.1=1 then (l++[id],true) else upF d n x.2.2 (l++[id])
def up (d:aF) (id:ByteArray):List ByteArray×Bool:=upF d 65 id []
def BM (d:aF) (id:ByteArray):List ByteArray:=match cB d id with
 | some _=>(up d id).1.reverse
 | none=>match partOf d id with
  | some p=>(up d (AQ5 p)).1.reverse
  | none=>[]
abbrev A40:Sh:=[(false,.li .str)]
abbrev A98:Sh:=[(false,.li .str),(false,.bool)]
def AJE (x:aF×ByteArray):Option T:=some (Sh.enc A98 (up x.1 x.2))
def A1Y (x:aF×ByteArray):Option T:=V2 x.1 (Sh.enc A40 (BM x.1 x.2))
abbrev DB:=A1Y
theorem ARH {d:aF}:∀ {n:Nat} {id:ByteArray} {l:List ByteArray},(upF d n id l).1.length≤l.length+n
 | 0,_,_=>by simp[upF]
 | n+1,id,l=>by
  unfold upF
  cases cB d id with
  | none=>simp
  | some x =>
   by_cases hx:x.2.1=1
   ·simp only[hx,if_true]
    simp
   ·simp only[hx,if_false]
    have:=ARH (d:=d) (n:=n) (id:=x.2.2) (l:=l++[id])
    simp at this;omega
theorem AB1 (d:aF) (id:ByteArray):(up d id).1.length≤65:=by have:=ARH (d:=d) (n:=65) (id:=id) (l:=[]);simpa [up] using this
theorem CD {l:List ByteArray} (h:l.length≤8000000000000) (K:Prop):bP (decide (((List.map Sy.str.enc l).length+1)*16≤140737488355328)&&decide ((List.map Sy.str.enc l).length+1≤140737488355328)) K=K:=by
 have e:(decide (((List.map Sy.str.enc l).length+1)*16≤140737488355328)&&decide ((List.map Sy.str.enc l).length+1≤140737488355328))=true:=by
  simp only[List.length_map,Bool.and_eq_true,decide_eq_true_eq]
  omega
 rw[e];simp[bP]
theorem D0 {l:List ByteArray} {x:ByteArray} (K:List ByteArray→Prop):b6 Sy.str (List.map Sy.str.enc l++[[T.v (.string x)]]) K=K (l++[x]):=sF (r:=.str) rfl l _ x rfl K
theorem AF5 {l:List ByteArray} {x:ByteArray}:List.map Sy.str.enc l++[[T.v (.string x)]]=List.map Sy.str.enc (l++[x]):=by simp[Sy.enc]
noncomputable def A57:Env:=Env.of [(41,.pure cY)]
def A80:FuncId→Hint:=fun f=>match f == 80 with|true=>⟨fun r=>match r == 3 with|true=>.inv [.val 1 false .str,.own 6 1 .str,.val 7 false (.int .i64)]|false=>.none,fun _ _=>none,fun _=>none⟩|false=>aV
theorem A58:aH Tryz.prog A57:=aH.cons (x:=.pure cY) oS (aH.nil _)
def A59 (a0:aF) (a1:ByteArray) (R:T→Prop):Prop :=
 bA (ByteArray×List ByteArray×Int×PUnit)
 (fun (X0:ByteArray×List ByteArray×Int×PUnit→Prop) (s1:ByteArray×List ByteArray×Int×PUnit) =>
 aB (decide (s1.2.2.1≤64))
 (aG [(true,bE),(false,Sy.bool)]
 (cY [aC true aL a0,T.v (.string s1.1)])
 fun (y2:gT×Bool) =>
 aB (!y2.2) (R (T.cR [T.sl false [],T.v (.bool false)]))
 (bP
 (decide (((List.map Sy.str.enc s1.2.1).length+1)*16≤140737488355328) &&
 decide ((List.map Sy.str.enc s1.2.1).length+1≤140737488355328))
 (aB (decide (y2.1.2.1=1))
 (R
 (T.cR
 [T.sl false (List.map Sy.str.enc s1.2.1++[[T.v (.string s1.1)]]),
 T.v (.bool true)]))
 (b6 Sy.str (List.map Sy.str.enc s1.2.1++[[T.v (.string s1.1)]])
 fun (y3:List ByteArray)=>X0 (y2.1.2.2,y3,IntKind.i64.wrap (s1.2.2.1+1),())))))
 (R (T.cR [T.sl false [],T.v (.bool false)])))
 (a1,[],0,())
theorem A2T ( a0 a1 R):bC aY Tryz.prog A57 A80 8 80 [aC true aL a0,aC false Sy.str a1] R=A59 a0 a1 R:=by kernel_rfl
abbrev A47:Sh:=[(true,aL),(false,Sy.str)]
abbrev A41:Sh:=[(false,Sy.str.li),(false,Sy.bool)]
theorem WD (y:Sh.den A41) (K:Sh.den A41→Prop):aG A41 (some (Sh.enc A41 y)) K=K y:=mF rfl y K
noncomputable def EJ:List T→Option (T):=gS A47 AJE
theorem AAN {a0 a1}:EJ [aC true aL a0,T.v (.string a1)]=AJE (a0,a1):=a8 (s:=A47) rfl (a0,a1) rfl
theorem A96 (h:∀ a0 a1 r,AJE (a0,a1)=some r→b8 A47 (a0,a1)→A59 a0 a1 (fun y=>y=r)):aK Tryz.prog 80 EJ :=
 aR (E:=A57) (Hs:=A80) A58 aW aX (aM rfl) 8 ⟨_,_,Tryz.func80,rfl⟩ rfl fun x r h1 h2=>by
  obtain ⟨a0,a1⟩:=x
  rw[show Sh.bN A47 (a0,a1)=[aC true aL a0,aC false Sy.str a1] from rfl,A2T]
  exact h a0 a1 r h1 h2
theorem AZF:aK Tryz.prog 80 EJ:=A96 fun d id r h hb=>by
 cases h
 unfold A59
 refine aZ 65 (fun k s=>∃ id' l',s=(id',l',(k:Int),())∧l'.length=k∧upF d (65-k) id' l'=up d id) ⟨id,[],rfl,rfl,rfl⟩ ?_
 rintro X k s hk ⟨id',l',rfl,hl,hu⟩ hX
 dsimp only
 by_cases hlt:k<65
 ·have h1:decide ((k:Int)≤64)=true:=by simp;omega
  obtain ⟨m,hm⟩:∃ m,65-k=m+1:=⟨64-k,by omega⟩
  rw[hm] at hu
  simp only[upF] at hu
  simp only[h1,CD (l:=l') (by omega),D0,aB,q8,lG,AX,rY]
  cases hn:cB d id' with
  | none=>simp only[hn] at hu;simp only[found];rw[←hu];rfl
  | some x =>
   simp only[hn] at hu
   simp only[found,Bool.not_true]
   by_cases hx:x.2.1=1
   ·simp only[hx,decide_true]
    rw[if_pos hx] at hu
    rw[←hu,AF5];rfl
   ·simp only[hx,decide_false]
    rw[if_neg hx] at hu
    rw[D0]
    refine hX _ hlt ⟨x.2.2,l'++[id'],?_,by simp[hl],by rw[←hu];congr 1;omega⟩
    simp only[Prod.mk.injEq,and_true,true_and]
    exact aS _ (by omega) (by omega)
 ·have h1:decide ((k:Int)≤64)=false:=by simp;omega
  have:65-k=0:=by omega
  rw[this] at hu
  rw[h1,←hu]
  rfl
noncomputable def G0:Env:=Env.of [(41,.pure cY),(85,.pure eT),(80,.pure EJ)]
def UH:FuncId→Hint:=fun f=>match f == 81 with|true=>⟨fun r=>match r == 11 with|true=>.inv [.own 12 1 .str,.val 13 false (.int .i64)]|false=>.none,fun _ _=>none,fun _=>none⟩|false=>aV
theorem ACN:aH Tryz.prog G0:=aH.cons (x:=.pure cY) oS (aH.cons (x:=.pure eT) yZ (aH.cons (x:=.pure EJ) AZF (aH.nil _)))
def HT (a0:aF) (a1:ByteArray) (R:T→Prop):Prop :=
 aG [(true,bE),(false,Sy.bool)]
 (cY [aC true aL a0,T.v (.string a1)]) fun (y0:gT×Bool) =>
 aB (!y0.2)
 (aG [(true,aU),(false,Sy.bool)]
 (eT [aC true aL a0,T.v (.string a1)])
 fun (y1:bM×Bool) =>
 aB (!y1.2) (R (T.sl false []))
 (aG [(false,Sy.str.li),(false,Sy.bool)]
 (EJ [aC true aL a0,T.v (.string y1.1.2.2.2.1)])
 fun (y2:List ByteArray×Bool) =>
 bA (List ByteArray×Int×PUnit)
 (fun (X3:List ByteArray×Int×PUnit→Prop) (s4:List ByteArray×Int×PUnit) =>
 aB (decide (0≤s4.2.1))
 (aO Sy.str (List.map Sy.str.enc y2.1) s4.2.1 fun (y5:ByteArray) =>
 bP
 (decide (((List.map Sy.str.enc s4.1).length+1)*16≤140737488355328) &&
 decide ((List.map Sy.str.enc s4.1).length+1≤140737488355328))
 (b6 Sy.str (List.map Sy.str.enc s4.1++[[T.v (.string y5)]])
 fun (y6:List ByteArray)=>X3 (y6,IntKind.i64.wrap (s4.2.1-1),())))
 (R (T.sl false (List.map Sy.str.enc s4.1))))
 ([],IntKind.i64.wrap ((↑(List.map Sy.str.enc y2.1).length:Int)-1),())))
 (aG [(false,Sy.str.li),(false,Sy.bool)]
 (EJ [aC true aL a0,T.v (.string a1)])
 fun (y7:List ByteArray×Bool) =>
 bA (List ByteArray×Int×PUnit)
 (fun (X8:List ByteArray×Int×PUnit→Prop) (s9:List ByteArray×Int×PUnit) =>
 aB (decide (0≤s9.2.1))
 (aO Sy.str (List.map Sy.str.enc y7.1) s9.2.1 fun (y10:ByteArray) =>
 bP
 (decide (((List.map Sy.str.enc s9.1).length+1)*16≤140737488355328) &&
 decide ((List.map Sy.str.enc s9.1).length+1≤140737488355328))
 (b6 Sy.str (List.map Sy.str.enc s9.1++[[T.v (.string y10)]])
 fun (y11:List ByteArray)=>X8 (y11,IntKind.i64.wrap (s9.2.1-1),())))
 (R (T.sl false (List.map Sy.str.enc s9.1))))
 ([],IntKind.i64.wrap ((↑(List.map Sy.str.enc y7.1).length:Int)-1),()))
theorem YQ ( a0 a1 R):bC aY Tryz.prog G0 UH 8 81 [aC true aL a0,aC false Sy.str a1] R=HT a0 a1 R:=by kernel_rfl
abbrev AD:Sh:=[(true,aL),(false,Sy.str)]
noncomputable def o0:List T→Option (T):=gS AD DB
theorem AAB {a0 a1}:o0 [aC true aL a0,T.v (.string a1)]=DB (a0,a1):=a8 (s:=AD) rfl (a0,a1) rfl
theorem AOG (h:∀ a0 a1 r,DB (a0,a1)=some r→b8 AD (a0,a1)→HT a0 a1 (fun y=>y=r)):aK Tryz.prog 81 o0 :=
 aR (E:=G0) (Hs:=UH) ACN aW aX (aM rfl) 8 ⟨_,_,Tryz.func81,rfl⟩ rfl fun x r h1 h2=>by
  obtain ⟨a0,a1⟩:=x
  rw[show Sh.bN AD (a0,a1)=[aC true aL a0,aC false Sy.str a1] from rfl,YQ]
  exact h a0 a1 r h1 h2
theorem U1 {ls:List ByteArray} (hl:ls.length≤65) {R:T→Prop} (hR:R (T.sl false (List.map Sy.str.enc ls.reverse))):bA (List ByteArray×Int×PUnit)
    (fun (X8:List ByteArray×Int×PUnit→Prop) (s9:List ByteArray×Int×PUnit) =>
     aB (decide (0≤s9.2.1))
      (aO Sy.str (List.map Sy.str.enc ls) s9.2.1 fun (y10:ByteArray) =>
       bP
        (decide (((List.map Sy.str.enc s9.1).length+1)*16≤140737488355328)&&decide ((List.map Sy.str.enc s9.1).length+1≤140737488355328))
        (b6 Sy.str (List.map Sy.str.enc s9.1++[[T.v (.string y10)]])
         fun (y11:List ByteArray)=>X8 (y11,IntKind.i64.wrap (s9.2.1-1),())))
      (R (T.sl false (List.map Sy.str.enc s9.1))))
    ([],IntKind.i64.wrap ((↑(List.map Sy.str.enc ls).length:Int)-1),()):=by
 refine aZ ls.length (fun k s=>s=(ls.reverse.take k,(ls.length:Int)-1-k,())) ?_ ?_
 ·simp only[List.take_zero,List.length_map,Prod.mk.injEq,and_true,true_and]
  rw[aS _ (by omega) (by omega)];simp
 rintro X k s hk rfl hX
 by_cases hlt:k<ls.length
 ·have h1:decide (0≤(ls.length:Int)-1-k)=true:=by simp;omega
  have e:(ls.length:Int)-1-k=((ls.length-1-k:Nat):Int):=by omega
  dsimp only
  rw[h1,e,aT (r:=.str) (show ls.length-1-k<ls.length by omega),CD (by simp;omega),D0]
  simp only[aB]
  refine hX _ hlt ?_
  have hg:ls.reverse.take (k+1)=ls.reverse.take k++[ls[ls.length-1-k]]:=by
   rw[List.take_succ_eq_append_getElem (by simpa using hlt)]
   simp
  rw[hg]
  simp only[Prod.mk.injEq,and_true,true_and]
  rw[aS _ (by omega) (by omega)];omega
 ·have:k=ls.length:=by omega
  subst this
  have h1:decide (0≤(ls.length:Int)-1-ls.length)=false:=by simp;omega
  simp only[h1,aB]
  rw[List.take_of_length_le (by simp)]
  exact hR
theorem AMT:aK Tryz.prog 81 o0:=AOG fun d id r h hb=>by
 have h':V2 d (Sh.enc A40 (BM d id))=some r:=h
 obtain ⟨hok,rfl⟩:=A1D h'
 clear h h'
 unfold HT
 simp only[q8,lG,AX,rY,xJ,mX,GF,BN,AAN,AJE,WD]
 cases hn:cB d id with
 | some x =>
  simp only[found,Bool.not_true,eU,fV]
  exact U1 (AB1 d id) (R:=fun y=>y=Sh.enc A40 (BM d id)) (by simp[BM,hn,Sh.enc,aC,Sy.enc,hdT])
 | none =>
  simp only[found,Bool.not_false,eU,fV]
  cases hp:partOf d id with
  | none=>simp only[Bool.not_false,eU];simp[BM,hn,hp,Sh.enc,aC,Sy.enc,hdT]
  | some p =>
   simp only[Bool.not_true,eU,fV]
   exact U1 (AB1 d (AQ5 p)) (R:=fun y=>y=Sh.enc A40 (BM d id)) (by simp[BM,hn,hp,Sh.enc,aC,Sy.enc,hdT])
end Go.Pv
namespace Go.Pv
open Go Go.Proofs
def l7 (l:List ByteArray) (x:ByteArray):Bool:=l.any fun y=>decide (y=x)
theorem iK {l:List ByteArray} {x:ByteArray}:l7 l x=true↔x∈l:=by
 simp only[l7,List.any_eq_true,decide_eq_true_eq]
 exact ⟨fun ⟨y,h,e⟩=>e ▸ h,fun h=>⟨x,h,rfl⟩⟩
def Sy.tl:Sy→Sy
 | .pr _ b=>b
 | x=>x
def I4:List ByteArray→Nat→List (ByteArray×Int)→List (ByteArray×Int)
 | [],_,es=>es
 | a::l,i,es=>I4 l (i+1) (match iT es a with
  | none=>wS es a (i:Int)
  | some _=>es)
def hH (l:List ByteArray):List (ByteArray×Int):=I4 l 0 []
def ids {α:Type} (l:List (ByteArray×α)):List ByteArray:=l.map fun x=>x.1
def mD {α β:Type} (l:List α) (r:β):Option β:=match decide (l.length≤140737488355328) with
 | true=>some r
 | false=>none
theorem gC {α β:Type} {l:List α} {t r:β} (h:mD l t=some r):l.length≤140737488355328∧r=t:=by
 unfold mD at h;split at h
 ·rename_i hc
  cases h;exact ⟨of_decide_eq_true hc,rfl⟩
 ·cases h
theorem eH {α β:Type} {l:List α} (t:β) (h:l.length≤140737488355328):mD l t=some t:=by unfold mD;rw[decide_eq_true h]
theorem A3A (es:List (ByteArray×Int)):List.map (fun (e:Value×D)=>(e.1,AB0 e.2)) (List.map (cE Sy.str false (Sy.int IntKind.i64)) es)=bI es:=by
 rw[List.map_map];rfl
theorem L8 {r:Sy} {l:List (ByteArray×r.den)} (hl:l.length≤140737488355328) :
 dU Sy.str false (Sy.int IntKind.i64) [] fun (y0:List (ByteArray×Int)) =>
 bA (List (ByteArray×Int)×Int×PUnit)
  (fun (X1:List (ByteArray×Int)×Int×PUnit→Prop) (s2:List (ByteArray×Int)×Int×PUnit) =>
   aB (decide (s2.2.1<(↑l.length:Int)))
    (aO (.pr .str r) (List.map (Sy.pr .str r).enc l) s2.2.1 fun (y3:ByteArray×r.den) =>
     gK TypeDesc.string (Value.string y3.1)
      (List.map (cE Sy.str false (Sy.int IntKind.i64)) s2.1) false
      (Sy.int IntKind.i64)
      (aO (.pr .str r) (List.map (Sy.pr .str r).enc l) s2.2.1 fun (y7:ByteArray×r.den) =>
       oF (Option (Nat×D))
        (findD TypeDesc.string (Value.string y7.1)
         (List.map (cE Sy.str false (Sy.int IntKind.i64)) s2.1) 0)
        fun (y8:Option (Nat×D)) =>
        dU Sy.str false (Sy.int IntKind.i64)
         (eX (List.map (cE Sy.str false (Sy.int IntKind.i64)) s2.1) y8
          (Value.string y7.1) (D.p (T.v (.int .i64 s2.2.1))))
         fun (y9:List (ByteArray×Int))=>X1 (y9,IntKind.i64.wrap (s2.2.1+1),()))
      fun (i4:Nat) (y5:Int) =>
      dU Sy.str false (Sy.int IntKind.i64)
       (List.map (cE Sy.str false (Sy.int IntKind.i64)) s2.1)
       fun (y6:List (ByteArray×Int))=>X1 (y6,IntKind.i64.wrap (s2.2.1+1),()))
    (bP
     ((List.map (cE Sy.str false (Sy.int IntKind.i64)) s2.1).all
      fun (e:Value×D)=>AUC e.2)
     ((fun y=>y=T.mp (bI (hH (ids l))))
      (T.mp
       (List.map (fun (e:Value×D)=>(e.1,AB0 e.2))
        (List.map (cE Sy.str false (Sy.int IntKind.i64)) s2.1))))))
  (y0,0,()):=by
 refine nK (r:=.int .i64) rfl [] _ ?_
 refine aZ l.length (fun k s=>∃ es,s=(es,(k:Int),())∧I4 (ids (l.drop k)) k es=hH (ids l)) ⟨[],rfl,rfl⟩ ?_
 rintro X k s hk ⟨es,rfl,hes⟩ hX
 dsimp only
 have hw:IntKind.i64.wrap ((k:Int)+1)=((k+1:Nat):Int):=aS _ (by omega) (by omega)
 by_cases hlt:k<l.length
 ·refine cV (by omega) ?_
  rw[aT (r:=.pr .str r) hlt]
  have hd:ids (l.drop k)=l[k].1::ids (l.drop (k+1)):=by rw[List.drop_eq_getElem_cons hlt];rfl
  rw[hd] at hes
  simp only[I4] at hes
  refine D8 (r:=.int .i64) (fun hno=>?_) (fun i v hv=>?_)
  ·rw[hno] at hes
   rw[aT (r:=.pr .str r) hlt]
   exact AZ0 (r:=.int .i64) rfl (v:=(k:Int)) (hX _ hlt ⟨_,by rw[hw],hes⟩)
  ·rw[hv] at hes
   exact nK (r:=.int .i64) rfl es _ (hX _ hlt ⟨_,by rw[hw],hes⟩)
 ·have:k=l.length:=by omega
  subst this
  refine dN (by omega) ?_
  rw[List.drop_length] at hes
  refine ⟨?_,?_⟩
  ·rw[List.all_eq_true]
   intro e he
   obtain ⟨x,_,rfl⟩:=List.mem_map.1 he
   rfl
  ·show T.mp _=_
   rw[A3A]
   rw[←hes]
   rfl
def r8 (a0:aF):List T:=[T.v (.int .i64 (a0.2.1.length:Int)),T.fn 57 [] [T.ref [T.ref (aL.enc a0)]]]
noncomputable def AWO:Env:=Env.of []
def A5D:FuncId→Hint:=fun f=>match f == 56 with|true=>⟨fun r=>match r == 3 with|true=>.inv [.map 0 .str false (.int .i64),.val 12 false (.int .i64)]|false=>.none,fun _ _=>none,fun _=>none⟩|false=>aV
theorem A2I:aH Tryz.prog AWO:=aH.nil _
def AW9 (a0:aF) (R:T→Prop):Prop :=
 dU Sy.str false (Sy.int IntKind.i64) [] fun (y0:List (ByteArray×Int)) =>
 bA (List (ByteArray×Int)×Int×PUnit)
 (fun (X1:List (ByteArray×Int)×Int×PUnit→Prop) (s2:List (ByteArray×Int)×Int×PUnit) =>
 aB (decide (s2.2.1<(↑a0.2.1.length:Int)))
 (aO bE (List.map bE.enc a0.2.1) s2.2.1 fun (y3:gT) =>
 gK TypeDesc.string (Value.string y3.1)
 (List.map (cE Sy.str false (Sy.int IntKind.i64)) s2.1) false
 (Sy.int IntKind.i64)
 (aO bE (List.map bE.enc a0.2.1) s2.2.1 fun (y7:gT) =>
 oF (Option (Nat×D))
 (findD TypeDesc.string (Value.string y7.1)
 (List.map (cE Sy.str false (Sy.int IntKind.i64)) s2.1) 0)
 fun (y8:Option (Nat×D)) =>
 dU Sy.str false (Sy.int IntKind.i64)
 (eX (List.map (cE Sy.str false (Sy.int IntKind.i64)) s2.1) y8
 (Value.string y7.1) (D.p (T.v (.int .i64 s2.2.1))))
 fun (y9:List (ByteArray×Int))=>X1 (y9,IntKind.i64.wrap (s2.2.1+1),()))
 fun (i4:Nat) (y5:Int) =>
 dU Sy.str false (Sy.int IntKind.i64)
 (List.map (cE Sy.str false (Sy.int IntKind.i64)) s2.1)
 fun (y6:List (ByteArray×Int))=>X1 (y6,IntKind.i64.wrap (s2.2.1+1),()))
 (bP
 ((List.map (cE Sy.str false (Sy.int IntKind.i64)) s2.1).all
 fun (e:Value×D)=>AUC e.2)
 (R
 (T.mp
 (List.map (fun (e:Value×D)=>(e.1,AB0 e.2))
 (List.map (cE Sy.str false (Sy.int IntKind.i64)) s2.1))))))
 (y0,0,())
theorem AXA ( a0 R):r5 aY Tryz.prog AWO A5D 8 56 (r8 a0) R=AW9 a0 R:=by kernel_rfl
def AO5 (d:aF):Option (List (ByteArray×Int)):=mD d.2.1 (hH (ids d.2.1))
theorem ARK (d d':aF) (h:r8 d=r8 d'):d=d':=by
 unfold r8 at h
 simp only[List.cons.injEq,T.fn.injEq,T.ref.injEq,and_true,true_and] at h
 exact Sy.dV aL _ _ h.2
noncomputable def AGX:List T→Option (List (ByteArray×Int)):=gA (fun (x:aF)=>r8 x) AO5
theorem AZI (a0:aF):AGX (r8 a0)=AO5 a0:=lQ (A:=(fun (x:aF)=>r8 x)) ARK a0
theorem A7Z (h:∀ (a0:aF) (r:List (ByteArray×Int)),AO5 a0=some r→(∀ t∈r8 a0,Bd t)→AW9 a0 (fun y=>y = .mp (bI r))):iV Tryz.prog 56 (rP AGX) :=
 D9 (E:=AWO) (Hs:=A5D) A2I aW aX (aM rfl) 8 ⟨_,_,Tryz.func56,rfl⟩ fun x r h1 h2=>by
  rw[AXA]
  exact h x r h1 h2
theorem A6V:iV Tryz.prog 56 (rP AGX):=A7Z fun d r h hb=>by
 obtain ⟨hl,rfl⟩:=gC h
 unfold AW9
 exact L8 (r:=bE.tl) (l:=d.2.1) hl
def sA (a0:aF):List T:=[T.v (.int .i64 (a0.2.2.1.length:Int)),T.fn 58 [] [T.ref [T.ref (aL.enc a0)]]]
noncomputable def AWP:Env:=Env.of []
def A5E:FuncId→Hint:=fun f=>match f == 56 with|true=>⟨fun r=>match r == 3 with|true=>.inv [.map 0 .str false (.int .i64),.val 12 false (.int .i64)]|false=>.none,fun _ _=>none,fun _=>none⟩|false=>aV
theorem A2J:aH Tryz.prog AWP:=aH.nil _
def AXB (a0:aF) (R:T→Prop):Prop :=
 dU Sy.str false (Sy.int IntKind.i64) [] fun (y0:List (ByteArray×Int)) =>
 bA (List (ByteArray×Int)×Int×PUnit)
 (fun (X1:List (ByteArray×Int)×Int×PUnit→Prop) (s2:List (ByteArray×Int)×Int×PUnit) =>
 aB (decide (s2.2.1<(↑a0.2.2.1.length:Int)))
 (aO aU (List.map aU.enc a0.2.2.1) s2.2.1 fun (y3:bM) =>
 gK TypeDesc.string (Value.string y3.1)
 (List.map (cE Sy.str false (Sy.int IntKind.i64)) s2.1) false
 (Sy.int IntKind.i64)
 (aO aU (List.map aU.enc a0.2.2.1) s2.2.1 fun (y7:bM) =>
 oF (Option (Nat×D))
 (findD TypeDesc.string (Value.string y7.1)
 (List.map (cE Sy.str false (Sy.int IntKind.i64)) s2.1) 0)
 fun (y8:Option (Nat×D)) =>
 dU Sy.str false (Sy.int IntKind.i64)
 (eX (List.map (cE Sy.str false (Sy.int IntKind.i64)) s2.1) y8
 (Value.string y7.1) (D.p (T.v (.int .i64 s2.2.1))))
 fun (y9:List (ByteArray×Int))=>X1 (y9,IntKind.i64.wrap (s2.2.1+1),()))
 fun (i4:Nat) (y5:Int) =>
 dU Sy.str false (Sy.int IntKind.i64)
 (List.map (cE Sy.str false (Sy.int IntKind.i64)) s2.1)
 fun (y6:List (ByteArray×Int))=>X1 (y6,IntKind.i64.wrap (s2.2.1+1),()))
 (bP
 ((List.map (cE Sy.str false (Sy.int IntKind.i64)) s2.1).all
 fun (e:Value×D)=>AUC e.2)
 (R
 (T.mp
 (List.map (fun (e:Value×D)=>(e.1,AB0 e.2))
 (List.map (cE Sy.str false (Sy.int IntKind.i64)) s2.1))))))
 (y0,0,())
theorem AXC ( a0 R):r5 aY Tryz.prog AWP A5E 8 56 (sA a0) R=AXB a0 R:=by kernel_rfl
def AO6 (d:aF):Option (List (ByteArray×Int)):=mD d.2.2.1 (hH (ids d.2.2.1))
theorem ARL (d d':aF) (h:sA d=sA d'):d=d':=by
 unfold sA at h
 simp only[List.cons.injEq,T.fn.injEq,T.ref.injEq,and_true,true_and] at h
 exact Sy.dV aL _ _ h.2
noncomputable def AGY:List T→Option (List (ByteArray×Int)):=gA (fun (x:aF)=>sA x) AO6
theorem AZJ (a0:aF):AGY (sA a0)=AO6 a0:=lQ (A:=(fun (x:aF)=>sA x)) ARL a0
theorem A70 (h:∀ (a0:aF) (r:List (ByteArray×Int)),AO6 a0=some r→(∀ t∈sA a0,Bd t)→AXB a0 (fun y=>y = .mp (bI r))):iV Tryz.prog 56 (rP AGY) :=
 D9 (E:=AWP) (Hs:=A5E) A2J aW aX (aM rfl) 8 ⟨_,_,Tryz.func56,rfl⟩ fun x r h1 h2=>by
  rw[AXC]
  exact h x r h1 h2
theorem A6W:iV Tryz.prog 56 (rP AGY):=A70 fun d r h hb=>by
 obtain ⟨hl,rfl⟩:=gC h
 unfold AXB
 exact L8 (r:=aU.tl) (l:=d.2.2.1) hl
def sB (a0:aF):List T:=[T.v (.int .i64 (a0.2.2.2.1.length:Int)),T.fn 59 [] [T.ref [T.ref (aL.enc a0)]]]
noncomputable def AWQ:Env:=Env.of []
def A5F:FuncId→Hint:=fun f=>match f == 56 with|true=>⟨fun r=>match r == 3 with|true=>.inv [.map 0 .str false (.int .i64),.val 12 false (.int .i64)]|false=>.none,fun _ _=>none,fun _=>none⟩|false=>aV
theorem A2K:aH Tryz.prog AWQ:=aH.nil _
def AXD (a0:aF) (R:T→Prop):Prop :=
 dU Sy.str false (Sy.int IntKind.i64) [] fun (y0:List (ByteArray×Int)) =>
 bA (List (ByteArray×Int)×Int×PUnit)
 (fun (X1:List (ByteArray×Int)×Int×PUnit→Prop) (s2:List (ByteArray×Int)×Int×PUnit) =>
 aB (decide (s2.2.1<(↑a0.2.2.2.1.length:Int)))
 (aO a6 (List.map a6.enc a0.2.2.2.1) s2.2.1 fun (y3:l9) =>
 gK TypeDesc.string (Value.string y3.1)
 (List.map (cE Sy.str false (Sy.int IntKind.i64)) s2.1) false
 (Sy.int IntKind.i64)
 (aO a6 (List.map a6.enc a0.2.2.2.1) s2.2.1 fun (y7:l9) =>
 oF (Option (Nat×D))
 (findD TypeDesc.string (Value.string y7.1)
 (List.map (cE Sy.str false (Sy.int IntKind.i64)) s2.1) 0)
 fun (y8:Option (Nat×D)) =>
 dU Sy.str false (Sy.int IntKind.i64)
 (eX (List.map (cE Sy.str false (Sy.int IntKind.i64)) s2.1) y8
 (Value.string y7.1) (D.p (T.v (.int .i64 s2.2.1))))
 fun (y9:List (ByteArray×Int))=>X1 (y9,IntKind.i64.wrap (s2.2.1+1),()))
 fun (i4:Nat) (y5:Int) =>
 dU Sy.str false (Sy.int IntKind.i64)
 (List.map (cE Sy.str false (Sy.int IntKind.i64)) s2.1)
 fun (y6:List (ByteArray×Int))=>X1 (y6,IntKind.i64.wrap (s2.2.1+1),()))
 (bP
 ((List.map (cE Sy.str false (Sy.int IntKind.i64)) s2.1).all
 fun (e:Value×D)=>AUC e.2)
 (R
 (T.mp
 (List.map (fun (e:Value×D)=>(e.1,AB0 e.2))
 (List.map (cE Sy.str false (Sy.int IntKind.i64)) s2.1))))))
 (y0,0,())
theorem AXE ( a0 R):r5 aY Tryz.prog AWQ A5F 8 56 (sB a0) R=AXD a0 R:=by kernel_rfl
def AO7 (d:aF):Option (List (ByteArray×Int)):=mD d.2.2.2.1 (hH (ids d.2.2.2.1))
theorem ARM (d d':aF) (h:sB d=sB d'):d=d':=by
 unfold sB at h
 simp only[List.cons.injEq,T.fn.injEq,T.ref.injEq,and_true,true_and] at h
 exact Sy.dV aL _ _ h.2
noncomputable def AGZ:List T→Option (List (ByteArray×Int)):=gA (fun (x:aF)=>sB x) AO7
theorem AZK (a0:aF):AGZ (sB a0)=AO7 a0:=lQ (A:=(fun (x:aF)=>sB x)) ARM a0
theorem A71 (h:∀ (a0:aF) (r:List (ByteArray×Int)),AO7 a0=some r→(∀ t∈sB a0,Bd t)→AXD a0 (fun y=>y = .mp (bI r))):iV Tryz.prog 56 (rP AGZ) :=
 D9 (E:=AWQ) (Hs:=A5F) A2K aW aX (aM rfl) 8 ⟨_,_,Tryz.func56,rfl⟩ fun x r h1 h2=>by
  rw[AXE]
  exact h x r h1 h2
theorem A6X:iV Tryz.prog 56 (rP AGZ):=A71 fun d r h hb=>by
 obtain ⟨hl,rfl⟩:=gC h
 unfold AXD
 exact L8 (r:=a6.tl) (l:=d.2.2.2.1) hl
def sC (a0:aF):List T:=[T.v (.int .i64 (a0.2.2.2.2.1.length:Int)),T.fn 60 [] [T.ref [T.ref (aL.enc a0)]]]
noncomputable def AWR:Env:=Env.of []
def A5G:FuncId→Hint:=fun f=>match f == 56 with|true=>⟨fun r=>match r == 3 with|true=>.inv [.map 0 .str false (.int .i64),.val 12 false (.int .i64)]|false=>.none,fun _ _=>none,fun _=>none⟩|false=>aV
theorem A2L:aH Tryz.prog AWR:=aH.nil _
def AXF (a0:aF) (R:T→Prop):Prop :=
 dU Sy.str false (Sy.int IntKind.i64) [] fun (y0:List (ByteArray×Int)) =>
 bA (List (ByteArray×Int)×Int×PUnit)
 (fun (X1:List (ByteArray×Int)×Int×PUnit→Prop) (s2:List (ByteArray×Int)×Int×PUnit) =>
 aB (decide (s2.2.1<(↑a0.2.2.2.2.1.length:Int)))
 (aO aP (List.map aP.enc a0.2.2.2.2.1) s2.2.1
 fun (y3:cC) =>
 gK TypeDesc.string (Value.string y3.1)
 (List.map (cE Sy.str false (Sy.int IntKind.i64)) s2.1) false
 (Sy.int IntKind.i64)
 (aO aP (List.map aP.enc a0.2.2.2.2.1) s2.2.1
 fun (y7:cC) =>
 oF (Option (Nat×D))
 (findD TypeDesc.string (Value.string y7.1)
 (List.map (cE Sy.str false (Sy.int IntKind.i64)) s2.1) 0)
 fun (y8:Option (Nat×D)) =>
 dU Sy.str false (Sy.int IntKind.i64)
 (eX (List.map (cE Sy.str false (Sy.int IntKind.i64)) s2.1) y8
 (Value.string y7.1) (D.p (T.v (.int .i64 s2.2.1))))
 fun (y9:List (ByteArray×Int))=>X1 (y9,IntKind.i64.wrap (s2.2.1+1),()))
 fun (i4:Nat) (y5:Int) =>
 dU Sy.str false (Sy.int IntKind.i64)
 (List.map (cE Sy.str false (Sy.int IntKind.i64)) s2.1)
 fun (y6:List (ByteArray×Int))=>X1 (y6,IntKind.i64.wrap (s2.2.1+1),()))
 (bP
 ((List.map (cE Sy.str false (Sy.int IntKind.i64)) s2.1).all
 fun (e:Value×D)=>AUC e.2)
 (R
 (T.mp
 (List.map (fun (e:Value×D)=>(e.1,AB0 e.2))
 (List.map (cE Sy.str false (Sy.int IntKind.i64)) s2.1))))))
 (y0,0,())
theorem AXG ( a0 R):r5 aY Tryz.prog AWR A5G 8 56 (sC a0) R=AXF a0 R:=by kernel_rfl
def AO8 (d:aF):Option (List (ByteArray×Int)):=mD d.2.2.2.2.1 (hH (ids d.2.2.2.2.1))
theorem ARN (d d':aF) (h:sC d=sC d'):d=d':=by
 unfold sC at h
 simp only[List.cons.injEq,T.fn.injEq,T.ref.injEq,and_true,true_and] at h
 exact Sy.dV aL _ _ h.2
noncomputable def AG0:List T→Option (List (ByteArray×Int)):=gA (fun (x:aF)=>sC x) AO8
theorem AZL (a0:aF):AG0 (sC a0)=AO8 a0:=lQ (A:=(fun (x:aF)=>sC x)) ARN a0
theorem A72 (h:∀ (a0:aF) (r:List (ByteArray×Int)),AO8 a0=some r→(∀ t∈sC a0,Bd t)→AXF a0 (fun y=>y = .mp (bI r))):iV Tryz.prog 56 (rP AG0) :=
 D9 (E:=AWR) (Hs:=A5G) A2L aW aX (aM rfl) 8 ⟨_,_,Tryz.func56,rfl⟩ fun x r h1 h2=>by
  rw[AXG]
  exact h x r h1 h2
theorem A6Y:iV Tryz.prog 56 (rP AG0):=A72 fun d r h hb=>by
 obtain ⟨hl,rfl⟩:=gC h
 unfold AXF
 exact L8 (r:=aP.tl) (l:=d.2.2.2.2.1) hl
end Go.Pv
namespace Go.Pv
open Go Go.Proofs
def orG {α:Type} (g1 g2:List T→Option α) (a:List T):Option α:=match g1 a with
 | some r=>some r
 | none=>g2 a
theorem RY {α:Type} {g1 g2:List T→Option α} {a:List T} {r:α} (h:g1 a=some r):orG g1 g2 a=some r:=by unfold orG;rw[h]
theorem oI {α:Type} {g1 g2:List T→Option α} {a:List T} (h:g1 a=none):orG g1 g2 a=g2 a:=by unfold orG;rw[h]
theorem V7 {α:Type} {g1 g2:List T→Option α} {a:List T} {r:α} (h:orG g1 g2 a=some r):g1 a=some r∨g2 a=some r:=by
 unfold orG at h
 split at h
 ·rename_i r' h1;cases h;exact .inl h1
 ·exact .inr h
theorem aK.or {P:Program} {f:FuncId} {g1 g2:List T→Option T} (h1:aK P f g1) (h2:aK P f g2):aK P f (orG g1 g2):=⟨h1.entry,fun w own args vs r hG ho ha hr=>by
 rcases V7 hr with h|h
 ·exact h1.calls w own args vs r hG ho ha h
 ·exact h2.calls w own args vs r hG ho ha h⟩
theorem iV.orM {P:Program} {f:FuncId} {g1 g2:List T→Option (List (ByteArray×Int))} (h1:iV P f (rP g1)) (h2:iV P f (rP g2)):iV P f (rP (orG g1 g2)):=⟨h1.entry,fun w own args vs r hG ho ha hr=>by
 simp only[rP,Option.map_eq_some_iff] at hr
 obtain ⟨es,h,rfl⟩:=hr
 rcases V7 h with h|h
 ·exact h1.calls w own args vs _ hG ho ha (by simp[rP,h])
 ·exact h2.calls w own args vs _ hG ho ha (by simp[rP,h])⟩
noncomputable def AT5:List T→Option (List (ByteArray×Int)):=orG AGX (orG AGY (orG AGZ AG0))
theorem A9H:iV Tryz.prog 56 (rP AT5):=.orM A6V (.orM A6W (.orM A6X A6Y))
theorem gN {α X:Type} {A:X→List T} {sp:X→Option α} {args:List T} (h:∀ x,args≠A x):gA A sp args=none:=by
 unfold gA;rw[dif_neg];rintro ⟨x,hx⟩;exact h x hx
def lL:List ByteArray→Bool
 | a::b::l=>!(dR b a||decide (b=a))&&lL (b::l)
 | _=>true
theorem AFR {l:List ByteArray} {k:Nat} (h:k+1<l.length):lL (l.drop k)=(!(dR l[k+1] l[k]||decide (l[k+1]=l[k]))&&lL (l.drop (k+1))):=by
 rw[List.drop_eq_getElem_cons (show k<l.length by omega),List.drop_eq_getElem_cons h,lL]
theorem AP5 {l:List ByteArray} {k:Nat} (h:l.length≤k+1):lL (l.drop k)=true:=by
 rcases Nat.lt_or_ge k l.length with h1|h1
 ·rw[List.drop_eq_getElem_cons h1,List.drop_eq_nil_of_le h];rfl
 ·rw[List.drop_eq_nil_of_le h1];rfl
theorem E9 {r:Sy} {p:r.den→ByteArray} {l:List r.den} (hl:l.length≤140737488355328) {R:T→Prop} (hR:R (T.v (.bool (lL (l.map p))))) :
 bA (Int×PUnit)
 (fun (X0:Int×PUnit→Prop) (s1:Int×PUnit) =>
  aB (decide (s1.1<(↑l.length:Int)))
   (aO r (List.map r.enc l) s1.1 fun (y2:r.den) =>
    aO r (List.map r.enc l) (IntKind.i64.wrap (s1.1-1))
     fun (y3:r.den) =>
     aB (dR (p y2) (p y3)||decide (p y2=p y3)) (R (T.v (.bool false)))
      (X0 (IntKind.i64.wrap (s1.1+1),())))
   (R (T.v (.bool true))))
 (1,()):=by
 refine aZ l.length (fun k s=>s=(((k+1:Nat):Int),())∧lL (l.map p)=lL ((l.map p).drop k)) ⟨rfl,by rw[List.drop_zero]⟩ ?_
 rintro X k s hk ⟨rfl,he⟩ hX
 dsimp only
 have hw:IntKind.i64.wrap (((k+1:Nat):Int)+1)=((k+1+1:Nat):Int):=aS _ (by omega) (by omega)
 have hw1:IntKind.i64.wrap (((k+1:Nat):Int)-1)=((k:Nat):Int):=by rw[aS _ (by omega) (by omega)];omega
 by_cases hlt:k+1<l.length
 ·refine cV (by omega) ?_
  rw[aT hlt,hw1,aT (show k<l.length by omega)]
  rw[AFR (by rw[List.length_map];exact hlt)] at he
  rw[List.getElem_map,List.getElem_map] at he
  cases hc:(dR (p l[k+1]) (p l[k])||decide (p l[k+1]=p l[k])) with
  | true =>
   rw[eU]
   rw[hc,Bool.not_true,Bool.false_and] at he
   rwa[he] at hR
  | false =>
   rw[fV]
   rw[hc,Bool.not_false,Bool.true_and] at he
   exact hX _ (by omega) ⟨by rw[hw],he⟩
 ·refine dN (by omega) ?_
  rw[AP5 (by rw[List.length_map];omega)] at he
  rwa[he] at hR
def qW (a0:List ByteArray):List T:=[T.v (.int .i64 (a0.length:Int)),T.fn 110 [] [T.ref [T.sl false (List.map Sy.str.enc a0)]]]
noncomputable def AWX:Env:=Env.of []
def A5M:FuncId→Hint:=fun f=>match f == 61 with|true=>⟨fun r=>match r == 2 with|true=>.inv [.val 5 false (.int .i64)]|false=>.none,fun _ _=>none,fun _=>none⟩|false=>aV
theorem A2R:aH Tryz.prog AWX:=aH.nil _
def AXR (a0:List ByteArray) (R:T→Prop):Prop :=
 bA (Int×PUnit)
 (fun (X0:Int×PUnit→Prop) (s1:Int×PUnit) =>
 aB (decide (s1.1<(↑a0.length:Int)))
 (aO Sy.str (List.map Sy.str.enc a0) s1.1 fun (y2:ByteArray) =>
 aO Sy.str (List.map Sy.str.enc a0) (IntKind.i64.wrap (s1.1-1))
 fun (y3:ByteArray) =>
 aB (dR y2 y3||decide (y2=y3)) (R (T.v (.bool false)))
 (X0 (IntKind.i64.wrap (s1.1+1),())))
 (R (T.v (.bool true))))
 (1,())
theorem AXS ( a0 R):bC aY Tryz.prog AWX A5M 8 61 (qW a0) R=AXR a0 R:=by kernel_rfl
def APE (l:List ByteArray):Option T:=mD l (T.v (.bool (lL l)))
theorem ARS (d d':List ByteArray) (h:qW d=qW d'):d=d':=by
 unfold qW at h
 simp only[List.cons.injEq,T.fn.injEq,T.ref.injEq,and_true,true_and,T.sl.injEq] at h
 exact map_inj (Sy.dV .str) h.2
noncomputable def AHX:List T→Option (T):=gA (fun (x:List ByteArray)=>qW x) APE
theorem AZR (a0:List ByteArray):AHX (qW a0)=APE a0:=lQ (A:=(fun (x:List ByteArray)=>qW x)) ARS a0
theorem A78 (h:∀ (a0:List ByteArray) (r:T),APE a0=some r→(∀ t∈qW a0,Bd t)→AXR a0 (fun y=>y=r)):aK Tryz.prog 61 AHX :=
 fO (E:=AWX) (Hs:=A5M) A2R aW aX (aM rfl) 8 ⟨_,_,Tryz.func61,rfl⟩ fun x r h1 h2=>by
  rw[AXS]
  exact h x r h1 h2
theorem A64:aK Tryz.prog 61 AHX:=A78 fun l r h hb=>by
 obtain ⟨hl,rfl⟩:=gC h
 unfold AXR
 exact E9 (r:=.str) (p:=fun y=>y) (R:=fun y=>y=T.v (.bool (lL l))) hl (by simp)
def qS (a0:aF):List T:=[T.v (.int .i64 (a0.2.1.length:Int)),T.fn 62 [] [T.ref [T.ref (aL.enc a0)]]]
noncomputable def AWT:Env:=Env.of []
def A5I:FuncId→Hint:=fun f=>match f == 61 with|true=>⟨fun r=>match r == 2 with|true=>.inv [.val 5 false (.int .i64)]|false=>.none,fun _ _=>none,fun _=>none⟩|false=>aV
theorem A2N:aH Tryz.prog AWT:=aH.nil _
def AXJ (a0:aF) (R:T→Prop):Prop :=
 bA (Int×PUnit)
 (fun (X0:Int×PUnit→Prop) (s1:Int×PUnit) =>
 aB (decide (s1.1<(↑a0.2.1.length:Int)))
 (aO bE (List.map bE.enc a0.2.1) s1.1 fun (y2:gT) =>
 aO bE (List.map bE.enc a0.2.1) (IntKind.i64.wrap (s1.1-1))
 fun (y3:gT) =>
 aB (dR y2.1 y3.1||decide (y2.1=y3.1)) (R (T.v (.bool false)))
 (X0 (IntKind.i64.wrap (s1.1+1),())))
 (R (T.v (.bool true))))
 (1,())
theorem AXK ( a0 R):bC aY Tryz.prog AWT A5I 8 61 (qS a0) R=AXJ a0 R:=by kernel_rfl
def APA (d:aF):Option T:=mD d.2.1 (T.v (.bool (lL (ids d.2.1))))
theorem ARO (d d':aF) (h:qS d=qS d'):d=d':=by
 unfold qS at h
 simp only[List.cons.injEq,T.fn.injEq,T.ref.injEq,and_true,true_and] at h
 exact Sy.dV aL _ _ h.2
noncomputable def AHT:List T→Option (T):=gA (fun (x:aF)=>qS x) APA
theorem AZN (a0:aF):AHT (qS a0)=APA a0:=lQ (A:=(fun (x:aF)=>qS x)) ARO a0
theorem A74 (h:∀ (a0:aF) (r:T),APA a0=some r→(∀ t∈qS a0,Bd t)→AXJ a0 (fun y=>y=r)):aK Tryz.prog 61 AHT :=
 fO (E:=AWT) (Hs:=A5I) A2N aW aX (aM rfl) 8 ⟨_,_,Tryz.func61,rfl⟩ fun x r h1 h2=>by
  rw[AXK]
  exact h x r h1 h2
theorem A60:aK Tryz.prog 61 AHT:=A74 fun d r h hb=>by
 obtain ⟨hl,rfl⟩:=gC h
 unfold AXJ
 exact E9 (r:=bE) (p:=fun y=>y.1) (R:=fun y=>y=T.v (.bool (lL (ids d.2.1)))) hl rfl
def qT (a0:aF):List T:=[T.v (.int .i64 (a0.2.2.1.length:Int)),T.fn 63 [] [T.ref [T.ref (aL.enc a0)]]]
noncomputable def AWU:Env:=Env.of []
def A5J:FuncId→Hint:=fun f=>match f == 61 with|true=>⟨fun r=>match r == 2 with|true=>.inv [.val 5 false (.int .i64)]|false=>.none,fun _ _=>none,fun _=>none⟩|false=>aV
theorem A2O:aH Tryz.prog AWU:=aH.nil _
def AXL (a0:aF) (R:T→Prop):Prop :=
 bA (Int×PUnit)
 (fun (X0:Int×PUnit→Prop) (s1:Int×PUnit) =>
 aB (decide (s1.1<(↑a0.2.2.1.length:Int)))
 (aO aU (List.map aU.enc a0.2.2.1) s1.1 fun (y2:bM) =>
 aO aU (List.map aU.enc a0.2.2.1) (IntKind.i64.wrap (s1.1-1))
 fun (y3:bM) =>
 aB (dR y2.1 y3.1||decide (y2.1=y3.1)) (R (T.v (.bool false)))
 (X0 (IntKind.i64.wrap (s1.1+1),())))
 (R (T.v (.bool true))))
 (1,())
theorem AXM ( a0 R):bC aY Tryz.prog AWU A5J 8 61 (qT a0) R=AXL a0 R:=by kernel_rfl
def APB (d:aF):Option T:=mD d.2.2.1 (T.v (.bool (lL (ids d.2.2.1))))
theorem ARP (d d':aF) (h:qT d=qT d'):d=d':=by
 unfold qT at h
 simp only[List.cons.injEq,T.fn.injEq,T.ref.injEq,and_true,true_and] at h
 exact Sy.dV aL _ _ h.2
noncomputable def AHU:List T→Option (T):=gA (fun (x:aF)=>qT x) APB
theorem AZO (a0:aF):AHU (qT a0)=APB a0:=lQ (A:=(fun (x:aF)=>qT x)) ARP a0
theorem A75 (h:∀ (a0:aF) (r:T),APB a0=some r→(∀ t∈qT a0,Bd t)→AXL a0 (fun y=>y=r)):aK Tryz.prog 61 AHU :=
 fO (E:=AWU) (Hs:=A5J) A2O aW aX (aM rfl) 8 ⟨_,_,Tryz.func61,rfl⟩ fun x r h1 h2=>by
  rw[AXM]
  exact h x r h1 h2
theorem A61:aK Tryz.prog 61 AHU:=A75 fun d r h hb=>by
 obtain ⟨hl,rfl⟩:=gC h
 unfold AXL
 exact E9 (r:=aU) (p:=fun y=>y.1) (R:=fun y=>y=T.v (.bool (lL (ids d.2.2.1)))) hl rfl
def qU (a0:aF):List T:=[T.v (.int .i64 (a0.2.2.2.1.length:Int)),T.fn 64 [] [T.ref [T.ref (aL.enc a0)]]]
noncomputable def AWV:Env:=Env.of []
def A5K:FuncId→Hint:=fun f=>match f == 61 with|true=>⟨fun r=>match r == 2 with|true=>.inv [.val 5 false (.int .i64)]|false=>.none,fun _ _=>none,fun _=>none⟩|false=>aV
theorem A2P:aH Tryz.prog AWV:=aH.nil _
def AXN (a0:aF) (R:T→Prop):Prop :=
 bA (Int×PUnit)
 (fun (X0:Int×PUnit→Prop) (s1:Int×PUnit) =>
 aB (decide (s1.1<(↑a0.2.2.2.1.length:Int)))
 (aO a6 (List.map a6.enc a0.2.2.2.1) s1.1 fun (y2:l9) =>
 aO a6 (List.map a6.enc a0.2.2.2.1) (IntKind.i64.wrap (s1.1-1))
 fun (y3:l9) =>
 aB (dR y2.1 y3.1||decide (y2.1=y3.1)) (R (T.v (.bool false)))
 (X0 (IntKind.i64.wrap (s1.1+1),())))
 (R (T.v (.bool true))))
 (1,())
theorem AXO ( a0 R):bC aY Tryz.prog AWV A5K 8 61 (qU a0) R=AXN a0 R:=by kernel_rfl
def APC (d:aF):Option T:=mD d.2.2.2.1 (T.v (.bool (lL (ids d.2.2.2.1))))
theorem ARQ (d d':aF) (h:qU d=qU d'):d=d':=by
 unfold qU at h
 simp only[List.cons.injEq,T.fn.injEq,T.ref.injEq,and_true,true_and] at h
 exact Sy.dV aL _ _ h.2
noncomputable def AHV:List T→Option (T):=gA (fun (x:aF)=>qU x) APC
theorem AZP (a0:aF):AHV (qU a0)=APC a0:=lQ (A:=(fun (x:aF)=>qU x)) ARQ a0
theorem A76 (h:∀ (a0:aF) (r:T),APC a0=some r→(∀ t∈qU a0,Bd t)→AXN a0 (fun y=>y=r)):aK Tryz.prog 61 AHV :=
 fO (E:=AWV) (Hs:=A5K) A2P aW aX (aM rfl) 8 ⟨_,_,Tryz.func61,rfl⟩ fun x r h1 h2=>by
  rw[AXO]
  exact h x r h1 h2
theorem A62:aK Tryz.prog 61 AHV:=A76 fun d r h hb=>by
 obtain ⟨hl,rfl⟩:=gC h
 unfold AXN
 exact E9 (r:=a6) (p:=fun y=>y.1) (R:=fun y=>y=T.v (.bool (lL (ids d.2.2.2.1)))) hl rfl
def qV (a0:aF):List T:=[T.v (.int .i64 (a0.2.2.2.2.1.length:Int)),T.fn 65 [] [T.ref [T.ref (aL.enc a0)]]]
noncomputable def AWW:Env:=Env.of []
def A5L:FuncId→Hint:=fun f=>match f == 61 with|true=>⟨fun r=>match r == 2 with|true=>.inv [.val 5 false (.int .i64)]|false=>.none,fun _ _=>none,fun _=>none⟩|false=>aV
theorem A2Q:aH Tryz.prog AWW:=aH.nil _
def AXP (a0:aF) (R:T→Prop):Prop :=
 bA (Int×PUnit)
 (fun (X0:Int×PUnit→Prop) (s1:Int×PUnit) =>
 aB (decide (s1.1<(↑a0.2.2.2.2.1.length:Int)))
 (aO aP (List.map aP.enc a0.2.2.2.2.1) s1.1
 fun (y2:cC) =>
 aO aP (List.map aP.enc a0.2.2.2.2.1)
 (IntKind.i64.wrap (s1.1-1)) fun (y3:cC) =>
 aB (dR y2.1 y3.1||decide (y2.1=y3.1)) (R (T.v (.bool false)))
 (X0 (IntKind.i64.wrap (s1.1+1),())))
 (R (T.v (.bool true))))
 (1,())
theorem AXQ ( a0 R):bC aY Tryz.prog AWW A5L 8 61 (qV a0) R=AXP a0 R:=by kernel_rfl
def APD (d:aF):Option T:=mD d.2.2.2.2.1 (T.v (.bool (lL (ids d.2.2.2.2.1))))
theorem ARR (d d':aF) (h:qV d=qV d'):d=d':=by
 unfold qV at h
 simp only[List.cons.injEq,T.fn.injEq,T.ref.injEq,and_true,true_and] at h
 exact Sy.dV aL _ _ h.2
noncomputable def AHW:List T→Option (T):=gA (fun (x:aF)=>qV x) APD
theorem AZQ (a0:aF):AHW (qV a0)=APD a0:=lQ (A:=(fun (x:aF)=>qV x)) ARR a0
theorem A77 (h:∀ (a0:aF) (r:T),APD a0=some r→(∀ t∈qV a0,Bd t)→AXP a0 (fun y=>y=r)):aK Tryz.prog 61 AHW :=
 fO (E:=AWW) (Hs:=A5L) A2Q aW aX (aM rfl) 8 ⟨_,_,Tryz.func61,rfl⟩ fun x r h1 h2=>by
  rw[AXQ]
  exact h x r h1 h2
theorem A63:aK Tryz.prog 61 AHW:=A77 fun d r h hb=>by
 obtain ⟨hl,rfl⟩:=gC h
 unfold AXP
 exact E9 (r:=aP) (p:=fun y=>y.1) (R:=fun y=>y=T.v (.bool (lL (ids d.2.2.2.2.1)))) hl rfl
noncomputable def sT:List T→Option T:=orG AHT (orG AHU (orG AHV (orG AHW AHX)))
theorem A5T:aK Tryz.prog 61 sT:=.or A60 (.or A61 (.or A62 (.or A63 A64)))
theorem A67 {d:aF} (h:d.2.1.length≤140737488355328):AT5 (r8 d)=some (hH (ids d.2.1)):=by
 have h1:AGX (r8 d)=some (hH (ids d.2.1)):=by rw[AZI];exact eH _ h
 exact (RY h1)
theorem A7B {d:aF} (h:d.2.1.length≤140737488355328):sT (qS d)=some (T.v (.bool (lL (ids d.2.1)))):=by
 have h1:AHT (qS d)=some (T.v (.bool (lL (ids d.2.1)))):=by rw[AZN];exact eH _ h
 exact (RY h1)
theorem A68 {d:aF} (h:d.2.2.1.length≤140737488355328):AT5 (sA d)=some (hH (ids d.2.2.1)):=by
 have h1:AGY (sA d)=some (hH (ids d.2.2.1)):=by rw[AZJ];exact eH _ h
 exact ((oI (gN fun x h=>by simp[r8,sA] at h)).trans (RY h1))
theorem A7C {d:aF} (h:d.2.2.1.length≤140737488355328):sT (qT d)=some (T.v (.bool (lL (ids d.2.2.1)))):=by
 have h1:AHU (qT d)=some (T.v (.bool (lL (ids d.2.2.1)))):=by rw[AZO];exact eH _ h
 exact ((oI (gN fun x h=>by simp[qS,qT] at h)).trans (RY h1))
theorem A69 {d:aF} (h:d.2.2.2.1.length≤140737488355328):AT5 (sB d)=some (hH (ids d.2.2.2.1)):=by
 have h1:AGZ (sB d)=some (hH (ids d.2.2.2.1)):=by rw[AZK];exact eH _ h
 exact ((oI (gN fun x h=>by simp[r8,sB] at h)).trans ((oI (gN fun x h=>by simp[sA,sB] at h)).trans (RY h1)))
theorem A7D {d:aF} (h:d.2.2.2.1.length≤140737488355328):sT (qU d)=some (T.v (.bool (lL (ids d.2.2.2.1)))):=by
 have h1:AHV (qU d)=some (T.v (.bool (lL (ids d.2.2.2.1)))):=by rw[AZP];exact eH _ h
 exact ((oI (gN fun x h=>by simp[qS,qU] at h)).trans ((oI (gN fun x h=>by simp[qT,qU] at h)).trans (RY h1)))
theorem A7A {d:aF} (h:d.2.2.2.2.1.length≤140737488355328):AT5 (sC d)=some (hH (ids d.2.2.2.2.1)):=by
 have h1:AG0 (sC d)=some (hH (ids d.2.2.2.2.1)):=by rw[AZL];exact eH _ h
 exact ((oI (gN fun x h=>by simp[r8,sC] at h)).trans ((oI (gN fun x h=>by simp[sA,sC] at h)).trans ((oI (gN fun x h=>by simp[sB,sC] at h)).trans h1)))
theorem A7E {d:aF} (h:d.2.2.2.2.1.length≤140737488355328):sT (qV d)=some (T.v (.bool (lL (ids d.2.2.2.2.1)))):=by
 have h1:AHW (qV d)=some (T.v (.bool (lL (ids d.2.2.2.2.1)))):=by rw[AZQ];exact eH _ h
 exact ((oI (gN fun x h=>by simp[qS,qV] at h)).trans ((oI (gN fun x h=>by simp[qT,qV] at h)).trans ((oI (gN fun x h=>by simp[qU,qV] at h)).trans (RY h1))))
theorem AZS {l:List ByteArray} (h:l.length≤140737488355328):sT (qW l)=some (T.v (.bool (lL l))):=by
 have h1:AHX (qW l)=some (T.v (.bool (lL l))):=by rw[AZR];exact eH _ h
 exact ((oI (gN fun x h=>by simp[qS,qW] at h)).trans ((oI (gN fun x h=>by simp[qT,qW] at h)).trans ((oI (gN fun x h=>by simp[qU,qW] at h)).trans ((oI (gN fun x h=>by simp[qV,qW] at h)).trans h1))))
abbrev S2 (d:aF) (m1 m2 m3 m4:List (ByteArray×Int)):T:=T.ref [T.ref (aL.enc d),T.mp (bI m1),T.mp (bI m2),T.mp (bI m3),T.mp (bI m4)]
end Go.Pv
namespace Go.Pv
open Go Go.Proofs
abbrev x7:Sh:=[(false,.bool)]
abbrev A4Y:Sh:=[(false,.li .str)]
def yL (x:ByteArray×ByteArray):Option T:=match decide (x.1.size<4294967281),decide (1≤x.2.size) with
 | true,true=>some (Sh.enc A4Y (Lib.splitB x.2 0 (Lib.countB x.1 x.2) x.1))
 | _,_=>none
noncomputable def sV:List T→Option T:=gS [(false,.str),(false,.str)] yL
theorem AH0 {a b:ByteArray}:sV [T.v (.string a),T.v (.string b)]=yL (a,b):=a8 (s:=[(false,.str),(false,.str)]) rfl (a,b) rfl
theorem ATY:aK Tryz.prog 98 sV:=by
 refine ⟨QS.entry,fun w own args vs r hG ho ha hg=>?_⟩
 obtain ⟨⟨a,b⟩,rfl,hx⟩:=L5 hg
 unfold yL at hx
 split at hx
 ·rename_i h1 h2
  cases hx
  have hs:IW [.v (.string a),.v (.string b)]=some (.sl true ((Lib.splitB b 0 (Lib.countB a b) a).map fun x=>[.v (.string x)])):=by
   unfold IW
   simp only[h1,h2]
  refine (QS.calls w own _ vs _ hG ho ha hs).mono ?_
  rintro e w' ⟨v,rfl,hr,hb⟩
  exact ⟨v,rfl,hr.canon 0,hb⟩
 ·cases hx
end Go.Pv
namespace Go.Pv
open Go Go.Proofs
def gQ (n:Int):Bool:=(decide (97≤n)&&decide (n≤122))||(decide (65≤n)&&decide (n≤90))
def oB (n:Int):Bool:=decide (48≤n)&&decide (n≤57)
def nameAt (i:Nat) (b:UInt8):Bool:=gQ b.toNat||(decide (i≠0)&&(oB b.toNat||decide ((b.toNat:Int)=95)||decide ((b.toNat:Int)=45)))
def isName (s:ByteArray):Bool:=decide (s.size≠0)&&decide (s.size≤16)&&(List.range s.size).all fun i=>match s.data[i]? with|some b=>nameAt i b|none=>true
def JP (n:Int):Option T:=some (Sh.enc x7 (gQ n))
def SL (n:Int):Option T:=some (Sh.enc x7 (oB n))
def rL (s:ByteArray):Option T:=some (Sh.enc x7 (isName s))
abbrev AV:=rL
def A48 (l:List ByteArray):Int:=(l.length:Int)-1+n7 l
def yJ (s:ByteArray):Option T:=match decide (s.size≤1099511627776) with
 | true=>some (Sh.enc A4Y (c0 s))
 | false=>none
def yI (l:List ByteArray):Option T:=match decide (l.length≤65)&&decide (n7 l≤64) with
 | true=>some (Sh.enc x7 (l.all isName&&(decide (1≤l.length)&&decide (l.length≤8)&&decide (A48 l≤64))))
 | false=>none
def gX (s:ByteArray):Bool:=decide (s.size≤64)&&decide ((c0 s).length≤8)&&(c0 s).all isName
def MT (s:ByteArray):Option T:=some (Sh.enc x7 (gX s))
def uF (s:ByteArray):Option T:=match decide (s.size≤1099511627776) with
 | true=>some (Sh.enc x7 (gX s))
 | false=>none
theorem cG {n:Nat} {f:Nat→Bool}:(List.range n).all f=true↔∀ i,i<n→f i=true:=by simp
theorem VS {s:ByteArray} (h0:s.size≠0) (h1:s.size≤16) (h2:∀ i b,s.data[i]? = some b→nameAt i b=true):isName s=true:=by
 unfold isName
 simp only[h0,h1,decide_true,Bool.true_and,Bool.and_eq_true,cG,ne_eq,not_false_eq_true,true_and]
 intro i hi
 split
 ·rename_i b hb;exact h2 i b hb
 ·rfl
theorem kP {s:ByteArray} (h:s.size=0∨16<s.size∨∃ i b,s.data[i]? = some b∧nameAt i b=false):isName s=false:=by
 rw[Bool.eq_false_iff]
 intro hn
 unfold isName at hn
 simp only[Bool.and_eq_true,cG,decide_eq_true_eq] at hn
 rcases h with h|h|⟨i,b,hb,hf⟩
 ·exact hn.1.1 h
 ·have:=hn.1.2;omega
 ·have hi:i<s.size:=(Array.getElem?_eq_some_iff.1 hb).1
  have:=hn.2 i hi
  rw[hb] at this
  simp only[hf] at this
  cases this
theorem LC (b:UInt8):nameAt 0 b=gQ b.toNat:=by simp[nameAt]
theorem w6 {s:ByteArray} {k:Nat} {b:UInt8} (h:s.data[k]? = some b) {K:Int→Prop} (hk:K b.toNat):DW s (k:Int) K:=⟨b,by omega,by rwa[Int.toNat_natCast],hk⟩
theorem AL1 {s:ByteArray} {b:UInt8} (h:s.data[0]? = some b) {K:Int→Prop} (hk:K b.toNat):DW s 0 K:=⟨b,by omega,h,hk⟩
theorem L1 {s:ByteArray}:s = { data:=#[] }↔s.size=0:=⟨fun e=>by subst e;rfl,fun e=>ByteArray.ext (Array.eq_empty_of_size_eq_zero e)⟩
theorem ANL {s:ByteArray} {k:Nat} (h:k<s.size):∃ b,s.data[k]? = some b:=⟨s.data[k]'h,by simp⟩
noncomputable def NA:Env:=Env.of []
def AEK:FuncId→Hint:=fun _=>aV
theorem AKA:aH Tryz.prog NA:=aH.nil _
def OI (a0:Int) (R:T→Prop):Prop :=
 aB (decide (97≤a0))
 (aB (decide (a0≤122)) (R (T.v (.bool true)))
 (aB (decide (65≤a0)) (R (T.v (.bool (decide (a0≤90)))))
 (R (T.v (.bool false)))))
 (aB (decide (65≤a0)) (R (T.v (.bool (decide (a0≤90)))))
 (R (T.v (.bool false))))
theorem ADC ( a0 R):bC aY Tryz.prog NA AEK 8 113 [aC false (Sy.int IntKind.u8) a0] R=OI a0 R:=by kernel_rfl
abbrev FJ:Sh:=[(false,(Sy.int IntKind.u8))]
noncomputable def pP:List T→Option (T):=gS FJ JP
theorem KX {a0}:pP [T.v (Value.int IntKind.u8 a0)]=JP (a0):=a8 (s:=FJ) rfl (a0) rfl
theorem AU2 (h:∀ a0 r,JP (a0)=some r→b8 FJ (a0)→OI a0 (fun y=>y=r)):aK Tryz.prog 113 pP :=
 aR (E:=NA) (Hs:=AEK) AKA aW aX (aM rfl) 8 ⟨_,_,Tryz.func113,rfl⟩ rfl fun x r h1 h2=>by
  let a0:=x
  rw[show Sh.bN FJ (a0)=[aC false (Sy.int IntKind.u8) a0] from rfl,ADC]
  exact h a0 r h1 h2
theorem ATI:aK Tryz.prog 113 pP:=AU2 fun n r h hb=>by
 have h':some (Sh.enc x7 (gQ n))=some r:=h
 cases h'
 clear h
 unfold OI
 simp only[EN]
 by_cases h1:97≤n<;>by_cases h2:n≤122<;>by_cases h3:65≤n<;>by_cases h4:n≤90<;>simp[h1,h2,h3,h4,gQ,Sh.enc,aC,Sy.enc,hdT]<;>omega
noncomputable def W7:Env:=Env.of []
def APO:FuncId→Hint:=fun _=>aV
theorem ARV:aH Tryz.prog W7:=aH.nil _
def XX (a0:Int) (R:T→Prop):Prop :=
 aB (decide (48≤a0)) (R (T.v (.bool (decide (a0≤57))))) (R (T.v (.bool false)))
theorem AK9 ( a0 R):bC aY Tryz.prog W7 APO 8 114 [aC false (Sy.int IntKind.u8) a0] R=XX a0 R:=by kernel_rfl
abbrev MG:Sh:=[(false,(Sy.int IntKind.u8))]
noncomputable def zB:List T→Option (T):=gS MG SL
theorem AM8 {a0}:zB [T.v (Value.int IntKind.u8 a0)]=SL (a0):=a8 (s:=MG) rfl (a0) rfl
theorem A0Y (h:∀ a0 r,SL (a0)=some r→b8 MG (a0)→XX a0 (fun y=>y=r)):aK Tryz.prog 114 zB :=
 aR (E:=W7) (Hs:=APO) ARV aW aX (aM rfl) 8 ⟨_,_,Tryz.func114,rfl⟩ rfl fun x r h1 h2=>by
  let a0:=x
  rw[show Sh.bN MG (a0)=[aC false (Sy.int IntKind.u8) a0] from rfl,AK9]
  exact h a0 r h1 h2
theorem AY5:aK Tryz.prog 114 zB:=A0Y fun n r h hb=>by
 have h':some (Sh.enc x7 (oB n))=some r:=h
 cases h'
 clear h
 unfold XX
 simp only[EN]
 by_cases h1:48≤n<;>by_cases h2:n≤57<;>simp[h1,h2,oB,Sh.enc,aC,Sy.enc,hdT]
noncomputable def BX:Env:=Env.of [(113,.pure pP),(114,.pure zB)]
def PJ:FuncId→Hint:=fun f=>match f == 74 with|true=>⟨fun r=>match r == 4 with|true=>.inv [.val 3 false (.int .i64)]|false=>.none,fun _ _=>none,fun _=>none⟩|false=>aV
theorem XN:aH Tryz.prog BX:=aH.cons (x:=.pure pP) ATI (aH.cons (x:=.pure zB) AY5 (aH.nil _))
def B6 (a0:ByteArray) (R:T→Prop):Prop :=
 aB (decide (a0 = { data:=#[] })) (R (T.v (.bool false)))
 (aB (decide (16<(↑(ByteArray.size a0):Int))) (R (T.v (.bool false)))
 (DW a0 0 fun (y0:Int) =>
 aG [(false,Sy.bool)] (pP [T.v (Value.int IntKind.u8 y0)])
 fun (y1:Bool) =>
 aB (!y1) (R (T.v (.bool false)))
 (bA (Int×PUnit)
 (fun (X2:Int×PUnit→Prop) (s3:Int×PUnit) =>
 aB (decide (s3.1<(↑(ByteArray.size a0):Int)))
 (DW a0 s3.1 fun (y4:Int) =>
 aG [(false,Sy.bool)] (pP [T.v (Value.int IntKind.u8 y4)])
 fun (y5:Bool) =>
 aB (!y5)
 (DW a0 s3.1 fun (y6:Int) =>
 aG [(false,Sy.bool)] (zB [T.v (Value.int IntKind.u8 y6)])
 fun (y7:Bool) =>
 aB (!y7)
 (DW a0 s3.1 fun (y8:Int) =>
 aB (!decide (y8=95))
 (DW a0 s3.1 fun (y9:Int) =>
 aB (!decide (y9=45)) (R (T.v (.bool false)))
 (X2 (IntKind.i64.wrap (s3.1+1),())))
 (X2 (IntKind.i64.wrap (s3.1+1),())))
 (X2 (IntKind.i64.wrap (s3.1+1),())))
 (X2 (IntKind.i64.wrap (s3.1+1),())))
 (R (T.v (.bool true))))
 (0,()))))
theorem TD ( a0 R):bC aY Tryz.prog BX PJ 8 74 [aC false Sy.str a0] R=B6 a0 R:=by kernel_rfl
abbrev vZ:Sh:=[(false,Sy.str)]
noncomputable def dI:List T→Option (T):=gS vZ rL
theorem mZ {a0}:dI [T.v (.string a0)]=rL (a0):=a8 (s:=vZ) rfl (a0) rfl
theorem AIT (h:∀ a0 r,rL (a0)=some r→b8 vZ (a0)→B6 a0 (fun y=>y=r)):aK Tryz.prog 74 dI :=
 aR (E:=BX) (Hs:=PJ) XN aW aX (aM rfl) 8 ⟨_,_,Tryz.func74,rfl⟩ rfl fun x r h1 h2=>by
  let a0:=x
  rw[show Sh.bN vZ (a0)=[aC false Sy.str a0] from rfl,TD]
  exact h a0 r h1 h2
theorem q7:aK Tryz.prog 74 dI:=AIT fun s r h hb=>by
 have h':some (Sh.enc x7 (isName s))=some r:=h
 cases h'
 clear h
 unfold B6
 by_cases h0:s.size=0
 ·exact cV (L1.2 h0) (by rw[kP (.inl h0)];rfl)
 refine dN (fun e=>h0 (L1.1 e)) ?_
 by_cases h16:16<s.size
 ·exact cV (by omega) (by rw[kP (.inr (.inl h16))];rfl)
 refine dN (by omega) ?_
 obtain ⟨b0,hb0⟩:=ANL (show 0<s.size by omega)
 refine AL1 hb0 (aD (s:=x7) (y:=gQ b0.toNat) KX ?_)
 cases hl0:gQ b0.toNat with
 | false=>exact (by rw[kP (.inr (.inr ⟨0,b0,hb0,by rw[LC];exact hl0⟩))];rfl)
 | true =>
  rw[Bool.not_true,fV]
  refine aZ s.size (fun k t=>t=((k:Int),())∧∀ i b,i<k→s.data[i]? = some b→nameAt i b=true) ⟨rfl,by simp⟩ ?_
  rintro X k t hk ⟨rfl,hno⟩ hX
  dsimp only
  by_cases hlt:k<s.size
  ·refine cV (by omega) ?_
   obtain ⟨b,hb⟩:=ANL hlt
   have hw:IntKind.i64.wrap ((k:Int)+1)=((k+1:Nat):Int):=aS _ (by omega) (by omega)
   have go:nameAt k b=true→X (IntKind.i64.wrap ((k:Int)+1),()):=fun hn=>hX _ hlt ⟨by rw[hw],fun i b' hi hb'=>by
    by_cases e:i=k
    ·subst e;rw[hb] at hb';cases hb';exact hn
    ·exact hno i b' (by omega) hb'⟩
   have hzero:gQ b.toNat=false→k≠0:=fun hf e=>by subst e;rw[hb] at hb0;cases hb0;rw[hf] at hl0;cases hl0
   have stop:nameAt k b=false→T.v (.bool false)=Sh.enc x7 (isName s):=fun hn=>by rw[kP (.inr (.inr ⟨k,b,hb,hn⟩))];rfl
   refine w6 hb (aD (s:=x7) (y:=gQ b.toNat) KX ?_)
   cases hl:gQ b.toNat with
   | true=>rw[Bool.not_true,fV];exact go (by simp[nameAt,hl])
   | false =>
    have hk0:=hzero hl
    rw[Bool.not_false,eU]
    refine w6 hb (aD (s:=x7) (y:=oB b.toNat) AM8 ?_)
    cases hd:oB b.toNat with
    | true=>rw[Bool.not_true,fV];exact go (by simp[nameAt,hl,hk0,hd])
    | false =>
     rw[Bool.not_false,eU]
     refine w6 hb ?_
     by_cases h95:(b.toNat:Int)=95
     ·exact I3 h95 (go (by simp[nameAt,hl,hk0,hd,h95]))
     ·refine RB h95 (w6 hb ?_)
      by_cases h45:(b.toNat:Int)=45
      ·exact I3 h45 (go (by simp[nameAt,hl,hk0,hd,h45]))
      ·exact RB h45 (stop (by
        unfold nameAt
        rw[hl,hd,decide_eq_false h95,decide_eq_false h45];simp))
  ·refine dN (by omega) ?_
   rw[VS h0 (by omega) (fun i b h=>hno i b (by have:=(Array.getElem?_eq_some_iff.1 h).1;have:i<s.size:=this;omega) h)];rfl
noncomputable def M9:Env:=Env.of []
def AEJ:FuncId→Hint:=fun f=>match f == 22 with|true=>⟨fun r=>match r == 4 with|true=>.inv [.jZ 0]|false=>.none,fun i j=>match i == 6&&j == 6 with|true=>some [.val 5 false .bool,.fix 0]|false=>match i == 7&&j == 7 with|true=>some [.val 6 false .bool,.fix 0]|false=>none,fun _=>none⟩|false=>aV
theorem AJ9:aH Tryz.prog M9:=aH.nil _
def OH (a0:ByteArray) (R:T→Prop):Prop :=
 aB (decide (a0 = { data:=#[] })) (R (T.v (.bool false)))
 (aB (decide (16<(↑(ByteArray.size a0):Int))) (R (T.v (.bool false)))
 (bA ((ByteArray×Nat)×PUnit)
 (fun (X0:(ByteArray×Nat)×PUnit→Prop) (s1:(ByteArray×Nat)×PUnit) =>
 aB (decide (s1.1.2<s1.1.1.size))
 (rD (Bool×PUnit×PUnit)
 (fun (X2:Bool×PUnit×PUnit→Prop) =>
 aB (decide (65≤(↑(Utf8.decode s1.1.1 s1.1.2).1:Int)))
 (aB (decide ((↑(Utf8.decode s1.1.1 s1.1.2).1:Int)≤90))
 (fE (bB.jZ s1.1.1 (s1.1.2+(Utf8.decode s1.1.1 s1.1.2).2))
 (bB.jZ s1.1.1 (s1.1.2+(Utf8.decode s1.1.1 s1.1.2).2))
 (X2 (true,(),())))
 (aB (decide (97≤(↑(Utf8.decode s1.1.1 s1.1.2).1:Int)))
 (fE (bB.jZ s1.1.1 (s1.1.2+(Utf8.decode s1.1.1 s1.1.2).2))
 (bB.jZ s1.1.1 (s1.1.2+(Utf8.decode s1.1.1 s1.1.2).2))
 (X2 (decide ((↑(Utf8.decode s1.1.1 s1.1.2).1:Int)≤122),(),())))
 (fE (bB.jZ s1.1.1 (s1.1.2+(Utf8.decode s1.1.1 s1.1.2).2))
 (bB.jZ s1.1.1 (s1.1.2+(Utf8.decode s1.1.1 s1.1.2).2))
 (X2 (false,(),())))))
 (aB (decide (97≤(↑(Utf8.decode s1.1.1 s1.1.2).1:Int)))
 (fE (bB.jZ s1.1.1 (s1.1.2+(Utf8.decode s1.1.1 s1.1.2).2))
 (bB.jZ s1.1.1 (s1.1.2+(Utf8.decode s1.1.1 s1.1.2).2))
 (X2 (decide ((↑(Utf8.decode s1.1.1 s1.1.2).1:Int)≤122),(),())))
 (fE (bB.jZ s1.1.1 (s1.1.2+(Utf8.decode s1.1.1 s1.1.2).2))
 (bB.jZ s1.1.1 (s1.1.2+(Utf8.decode s1.1.1 s1.1.2).2))
 (X2 (false,(),())))))
 fun (s3:Bool×PUnit×PUnit) =>
 rD (Bool×PUnit×PUnit)
 (fun (X4:Bool×PUnit×PUnit→Prop) =>
 aB (decide (48≤(↑(Utf8.decode s1.1.1 s1.1.2).1:Int)))
 (aB (decide ((↑(Utf8.decode s1.1.1 s1.1.2).1:Int)≤57))
 (fE (bB.jZ s1.1.1 (s1.1.2+(Utf8.decode s1.1.1 s1.1.2).2))
 (bB.jZ s1.1.1 (s1.1.2+(Utf8.decode s1.1.1 s1.1.2).2))
 (X4 (true,(),())))
 (aB (decide ((↑(Utf8.decode s1.1.1 s1.1.2).1:Int)=95))
 (fE (bB.jZ s1.1.1 (s1.1.2+(Utf8.decode s1.1.1 s1.1.2).2))
 (bB.jZ s1.1.1 (s1.1.2+(Utf8.decode s1.1.1 s1.1.2).2))
 (X4 (true,(),())))
 (fE (bB.jZ s1.1.1 (s1.1.2+(Utf8.decode s1.1.1 s1.1.2).2))
 (bB.jZ s1.1.1 (s1.1.2+(Utf8.decode s1.1.1 s1.1.2).2))
 (X4 (decide ((↑(Utf8.decode s1.1.1 s1.1.2).1:Int)=45),(),())))))
 (aB (decide ((↑(Utf8.decode s1.1.1 s1.1.2).1:Int)=95))
 (fE (bB.jZ s1.1.1 (s1.1.2+(Utf8.decode s1.1.1 s1.1.2).2))
 (bB.jZ s1.1.1 (s1.1.2+(Utf8.decode s1.1.1 s1.1.2).2))
 (X4 (true,(),())))
 (fE (bB.jZ s1.1.1 (s1.1.2+(Utf8.decode s1.1.1 s1.1.2).2))
 (bB.jZ s1.1.1 (s1.1.2+(Utf8.decode s1.1.1 s1.1.2).2))
 (X4 (decide ((↑(Utf8.decode s1.1.1 s1.1.2).1:Int)=45),(),())))))
 fun (s5:Bool×PUnit×PUnit) =>
 aB (!s3.1)
 (aB (decide ((↑s1.1.2:Int)=0)) (R (T.v (.bool false)))
 (aB (!s5.1) (R (T.v (.bool false)))
 (X0 ((s1.1.1,s1.1.2+(Utf8.decode s1.1.1 s1.1.2).2),()))))
 (X0 ((s1.1.1,s1.1.2+(Utf8.decode s1.1.1 s1.1.2).2),())))
 (R (T.v (.bool true))))
 ((a0,0),())))
theorem ADB ( a0 R):bC aY Tryz.prog M9 AEJ 8 22 [aC false Sy.str a0] R=OH a0 R:=by kernel_rfl
abbrev FI:Sh:=[(false,Sy.str)]
abbrev E4:Sh:=[(false,Sy.bool)]
theorem TY (y:Sh.den E4) (K:Sh.den E4→Prop):aG E4 (some (Sh.enc E4 y)) K=K y:=mF rfl y K
noncomputable def eR:List T→Option (T):=gS FI AV
theorem xG {a0}:eR [T.v (.string a0)]=AV (a0):=a8 (s:=FI) rfl (a0) rfl
theorem AU1 (h:∀ a0 r,AV (a0)=some r→b8 FI (a0)→OH a0 (fun y=>y=r)):aK Tryz.prog 22 eR :=
 aR (E:=M9) (Hs:=AEJ) AJ9 aW aX (aM rfl) 8 ⟨_,_,Tryz.func22,rfl⟩ rfl fun x r h1 h2=>by
  let a0:=x
  rw[show Sh.bN FI (a0)=[aC false Sy.str a0] from rfl,ADB]
  exact h a0 r h1 h2
theorem AH8 (c:Int) {K:Bool×PUnit×PUnit→Prop} (hX:K (gQ c,(),())):rD (Bool×PUnit×PUnit) (fun X=>aB (decide (65≤c)) (aB (decide (c≤90)) (X (true,(),())) (aB (decide (97≤c)) (X (decide (c≤122),(),())) (X (false,(),())))) (aB (decide (97≤c)) (X (decide (c≤122),(),())) (X (false,(),())))) K:=by
 simp only[EN,zH]
 unfold gQ at hX
 by_cases h1:65≤c<;>by_cases h2:c≤90<;>by_cases h3:97≤c<;>by_cases h4:c≤122<;>simp[h1,h2,h3,h4] at hX ⊢ <;> first|exact hX|omega
theorem ZV (c:Int) {K:Bool×PUnit×PUnit→Prop} (hX:K (oB c||decide (c=95)||decide (c=45),(),())):rD (Bool×PUnit×PUnit) (fun X=>aB (decide (48≤c)) (aB (decide (c≤57)) (X (true,(),())) (aB (decide (c=95)) (X (true,(),())) (X (decide (c=45),(),())))) (aB (decide (c=95)) (X (true,(),())) (X (decide (c=45),(),())))) K:=by
 simp only[EN,zH]
 unfold oB at hX
 by_cases h1:48≤c<;>by_cases h2:c≤57<;>by_cases h3:c=95<;>simp[h1,h2,h3] at hX ⊢ <;> first|exact hX|omega
theorem yY:aK Tryz.prog 22 eR:=AU1 fun s r h hb=>by
 have h':some (Sh.enc x7 (isName s))=some r:=h
 cases h'
 clear h
 unfold OH
 by_cases h0:s.size=0
 ·exact cV (L1.2 h0) (by rw[kP (.inl h0)];rfl)
 refine dN (fun e=>h0 (L1.1 e)) ?_
 by_cases h16:16<s.size
 ·exact cV (by omega) (by rw[kP (.inr (.inl h16))];rfl)
 refine dN (by omega) ?_
 refine aZ s.size (fun k t=>t=((s,k),())∧∀ i b,i<k→s.data[i]? = some b→nameAt i b=true) ⟨rfl,by simp⟩ ?_
 rintro X k t hk ⟨rfl,hno⟩ hX
 simp only[cI]
 by_cases hlt:k<s.size
 ·refine cV hlt ?_
  have hb:s.data[k]? = some (s[k]'hlt):=by
   rw[Array.getElem?_eq_getElem hlt];rfl
  refine AH8 (Utf8.decode s k).1 ?_
  refine ZV (Utf8.decode s k).1 ?_
  dsimp only
  have stop:nameAt k (s[k]'hlt)=false→T.v (.bool false)=Sh.enc x7 (isName s):=fun hn=>by rw[kP (.inr (.inr ⟨k,_,hb,hn⟩))];rfl
  by_cases hasc:(s[k]'hlt).toNat<128
  ·have hd:=decode_ascii s k hlt hasc
   have go:nameAt k (s[k]'hlt)=true→X ((s,k+(Utf8.decode s k).2),()):=fun hn=>by
    rw[hd]
    exact hX _ hlt ⟨rfl,fun i b' hi hb'=>by
     by_cases e:i=k
     ·subst e;rw[hb] at hb';cases hb';exact hn
     ·exact hno i b' (by omega) hb'⟩
   have e1:((Utf8.decode s k).1:Int)=((s[k]'hlt).toNat:Int):=by rw[hd]
   rw[e1]
   cases hl:gQ ((s[k]'hlt).toNat:Int) with
   | true=>rw[Bool.not_true,fV];exact go (by simp[nameAt,hl])
   | false =>
    rw[Bool.not_false,eU]
    by_cases hk0:k=0
    ·exact cV (by omega) (stop (by subst hk0;rw[LC];exact hl))
    ·refine dN (by omega) ?_
     cases hf:(oB ((s[k]'hlt).toNat:Int)||decide (((s[k]'hlt).toNat:Int)=95)||decide (((s[k]'hlt).toNat:Int)=45)) with
     | true=>rw[Bool.not_true,fV];exact go (by unfold nameAt;rw[hl,hf];simp[hk0])
     | false=>rw[Bool.not_false,eU];exact stop (by unfold nameAt;rw[hl,hf];simp)
  ·obtain ⟨hd1,hd2⟩:=decode_high s k hlt (by omega)
   have hl:gQ ((Utf8.decode s k).1:Int)=false:=by
    unfold gQ;simp;omega
   have hf:(oB ((Utf8.decode s k).1:Int)||decide (((Utf8.decode s k).1:Int)=95)||decide (((Utf8.decode s k).1:Int)=45))=false:=by
    unfold oB;simp;omega
   have hn:nameAt k (s[k]'hlt)=false:=by
    unfold nameAt gQ oB;simp;omega
   rw[hl,hf,Bool.not_false,eU]
   by_cases hk0:k=0
   ·exact cV (by omega) (stop hn)
   ·refine dN (by omega) ?_
    rw[eU]
    exact stop hn
 ·refine dN hlt ?_
  rw[VS h0 (by omega) (fun i b h=>hno i b (by have:=(Array.getElem?_eq_some_iff.1 h).1;have:i<s.size:=this;omega) h)];rfl
noncomputable def XE:Env:=Env.of []
def APV:FuncId→Hint:=fun f=>match f == 115 with|true=>⟨fun r=>match r == 4 with|true=>.inv [.own 3 1 .str,.val 4 false (.int .i64),.val 5 false (.int .i64)]|false=>.none,fun _ _=>none,fun _=>none⟩|false=>aV
theorem AR2:aH Tryz.prog XE:=aH.nil _
def YP (a0:ByteArray) (R:T→Prop):Prop :=
 bA (List ByteArray×Int×Int×PUnit)
 (fun (X0:List ByteArray×Int×Int×PUnit→Prop) (s1:List ByteArray×Int×Int×PUnit) =>
 aB (decide (s1.2.2.1≤(↑(ByteArray.size a0):Int)))
 (aB (decide (s1.2.2.1=(↑(ByteArray.size a0):Int)))
 (bP
 (decide (0≤s1.2.2.1)&&decide (Int.toNat s1.2.2.1≤ByteArray.size a0) &&
 (decide (0≤s1.2.1)&&decide (Int.toNat s1.2.1≤Int.toNat s1.2.2.1)))
 (bP
 (decide (((List.map Sy.str.enc s1.1).length+1)*16≤140737488355328) &&
 decide ((List.map Sy.str.enc s1.1).length+1≤140737488355328))
 (b6 Sy.str
 (List.map Sy.str.enc s1.1 ++
 [[T.v
 (Value.string (ByteArray.extract a0 (Int.toNat s1.2.1) (Int.toNat s1.2.2.1)))]])
 fun (y2:List ByteArray) =>
 X0 (y2,IntKind.i64.wrap (s1.2.2.1+1),IntKind.i64.wrap (s1.2.2.1+1),()))))
 (DW a0 s1.2.2.1 fun (y3:Int) =>
 aB (decide (y3=46))
 (bP
 (decide (0≤s1.2.2.1)&&decide (Int.toNat s1.2.2.1≤ByteArray.size a0) &&
 (decide (0≤s1.2.1)&&decide (Int.toNat s1.2.1≤Int.toNat s1.2.2.1)))
 (bP
 (decide (((List.map Sy.str.enc s1.1).length+1)*16≤140737488355328) &&
 decide ((List.map Sy.str.enc s1.1).length+1≤140737488355328))
 (b6 Sy.str
 (List.map Sy.str.enc s1.1 ++
 [[T.v
 (Value.string (ByteArray.extract a0 (Int.toNat s1.2.1) (Int.toNat s1.2.2.1)))]])
 fun (y4:List ByteArray) =>
 X0 (y4,IntKind.i64.wrap (s1.2.2.1+1),IntKind.i64.wrap (s1.2.2.1+1),()))))
 (b6 Sy.str (List.map Sy.str.enc s1.1) fun (y5:List ByteArray) =>
 X0 (y5,s1.2.1,IntKind.i64.wrap (s1.2.2.1+1),()))))
 (R (T.sl false (List.map Sy.str.enc s1.1))))
 ([],0,0,())
theorem ALL ( a0 R):bC aY Tryz.prog XE APV 8 115 [aC false Sy.str a0] R=YP a0 R:=by kernel_rfl
abbrev MM:Sh:=[(false,Sy.str)]
noncomputable def zF:List T→Option (T):=gS MM yJ
theorem ANF {a0}:zF [T.v (.string a0)]=yJ (a0):=a8 (s:=MM) rfl (a0) rfl
theorem A05 (h:∀ a0 r,yJ (a0)=some r→b8 MM (a0)→YP a0 (fun y=>y=r)):aK Tryz.prog 115 zF :=
 aR (E:=XE) (Hs:=APV) AR2 aW aX (aM rfl) 8 ⟨_,_,Tryz.func115,rfl⟩ rfl fun x r h1 h2=>by
  let a0:=x
  rw[show Sh.bN MM (a0)=[aC false Sy.str a0] from rfl,ALL]
  exact h a0 r h1 h2
theorem D7 (s:ByteArray) (f k:Nat):(s.extract f k).data.toList=(s.data.toList.drop f).take (k-f):=by
 rw[ByteArray.data_extract,Array.toList_extract,List.extract_eq_take_drop]
theorem AYZ {s:ByteArray} {f k:Nat} {b:UInt8} (h1:f≤k) (h:s.data[k]? = some b):(s.extract f (k+1)).data.toList=(s.extract f k).data.toList++[b]:=by
 rw[D7,D7]
 have e:k+1-f=(k-f)+1:=by omega
 rw[e,List.take_add_one]
 congr 1
 rw[List.getElem?_drop,show f+(k-f)=k by omega,Array.getElem?_toList,h];rfl
theorem AYR {s:ByteArray} {k:Nat} {b:UInt8} (h:s.data[k]? = some b):s.data.toList.drop k=b::s.data.toList.drop (k+1):=by
 obtain ⟨hk,e⟩:=Array.getElem?_eq_some_iff.1 h
 rw[List.drop_eq_getElem_cons (by simpa using hk),Array.getElem_toList,e]
theorem AY9:aK Tryz.prog 115 zF:=A05 fun s r h hb=>by
 unfold yJ at h
 split at h
 ·rename_i hsz
  have hsz:s.size≤1099511627776:=of_decide_eq_true hsz
  cases h
  unfold YP
  refine aZ (s.size+1) (fun k t=>∃ (out:List ByteArray) (f:Nat),t=(out,(f:Int),(k:Int),())∧out.length≤k∧((k≤s.size∧f≤k∧out.map (·.data.toList)++TZ (s.extract f k).data.toList (s.data.toList.drop k)=SW s.data.toList)∨(k=s.size+1∧out=c0 s)))
   ⟨[],0,rfl,by simp,.inl ⟨by omega,by omega,by rw[D7];simp[AJF]⟩⟩ ?_
  rintro X k t hk ⟨out,f,rfl,hol,hJ⟩ hX
  dsimp only
  have hreq:f≤k→k≤s.size→∀ K:Prop,K→bP (decide (0≤(k:Int))&&decide (Int.toNat (k:Int)≤ByteArray.size s)&&(decide (0≤(f:Int))&&decide (Int.toNat (f:Int)≤Int.toNat (k:Int)))) K:=fun h1 h2 K hK=>⟨by simp;omega,hK⟩
  have happ:∀ K:Prop,K→bP (decide (((List.map Sy.str.enc out).length+1)*16≤140737488355328)&&decide ((List.map Sy.str.enc out).length+1≤140737488355328)) K:=fun K hK=>⟨by simp only[List.length_map,Bool.and_eq_true,decide_eq_true_eq];omega,hK⟩
  have hdec:∀ (x:ByteArray) (K:List ByteArray→Prop),K (out++[x])→b6 Sy.str (List.map Sy.str.enc out++[[T.v (.string x)]]) K:=fun x K hK=>by
   rw[sF (r:=.str) rfl out _ x rfl];exact hK
  rcases hJ with ⟨hks,hfk,he⟩|⟨rfl,rfl⟩
  ·have hw:IntKind.i64.wrap ((k:Int)+1)=((k+1:Nat):Int):=aS _ (by omega) (by omega)
   refine cV (by omega) ?_
   by_cases hend:k=s.size
   ·subst hend
    refine cV rfl (hreq hfk hks _ (happ _ (hdec _ _ ?_)))
    refine hX _ (by omega) ⟨out++[s.extract f s.size],s.size+1,by rw[hw];simp,by simp;omega,.inr ⟨rfl,parts_eq ?_⟩⟩
    rw[List.drop_eq_nil_of_le (by rw[Array.length_toList];exact Nat.le_refl _),A10] at he
    rw[←he];simp
   ·refine dN (by omega) ?_
    obtain ⟨b,hb⟩:=ANL (show k<s.size by omega)
    refine w6 hb ?_
    rw[AYR hb] at he
    by_cases h46:(b.toNat:Int)=46
    ·refine cV h46 (hreq hfk hks _ (happ _ (hdec _ _ ?_)))
     have hb46:b=46:=by
      apply UInt8.toNat_inj.1
      have:(46:UInt8).toNat=46:=rfl
      omega
     subst hb46
     rw[A1Z] at he
     refine hX _ (by omega) ⟨out++[s.extract f k],k+1,by rw[hw];simp,by simp;omega,.inl ⟨by omega,by omega,?_⟩⟩
     rw[←he,D7 s (k+1) (k+1)]
     simp[AJF]
    ·refine dN h46 ?_
     rw[dT (r:=.str) rfl]
     have hb46:b≠46:=fun e=>h46 (by subst e;rfl)
     rw[AWF _ _ hb46,←AYZ hfk hb] at he
     exact hX _ (by omega) ⟨out,f,by rw[hw],by omega,.inl ⟨by omega,by omega,he⟩⟩
  ·exact dN (by omega) rfl
 ·cases h
noncomputable def XB:Env:=Env.of [(22,.pure eR)]
def APS:FuncId→Hint:=fun f=>match f == 97 with|true=>⟨fun r=>match r == 3 with|true=>.inv [.val 3 false (.int .i64),.val 11 false (.int .i64)]|false=>.none,fun _ _=>none,fun _=>none⟩|false=>aV
theorem ARZ:aH Tryz.prog XB:=aH.cons (x:=.pure eR) yY (aH.nil _)
def YG (a0:List ByteArray) (R:T→Prop):Prop :=
 bA (Int×Int×PUnit)
 (fun (X0:Int×Int×PUnit→Prop) (s1:Int×Int×PUnit) =>
 aB (decide (s1.2.1<(↑(List.map Sy.str.enc a0).length:Int)))
 (aO Sy.str (List.map Sy.str.enc a0) s1.2.1 fun (y2:ByteArray) =>
 aG [(false,Sy.bool)] (eR [T.v (.string y2)]) fun (y3:Bool) =>
 aB (!y3) (R (T.v (.bool false)))
 (X0 (IntKind.i64.wrap (s1.1+(↑y2.size:Int)),IntKind.i64.wrap (s1.2.1+1),())))
 (aB (decide (1≤(↑(List.map Sy.str.enc a0).length:Int)))
 (aB (decide ((↑(List.map Sy.str.enc a0).length:Int)≤8))
 (R (T.v (.bool (decide (s1.1≤64))))) (R (T.v (.bool false))))
 (R (T.v (.bool false)))))
 (IntKind.i64.wrap ((↑(List.map Sy.str.enc a0).length:Int)-1),0,())
theorem ALG ( a0 R):bC aY Tryz.prog XB APS 8 97 [aC false Sy.str.li a0] R=YG a0 R:=by kernel_rfl
abbrev MJ:Sh:=[(false,Sy.str.li)]
noncomputable def zC:List T→Option (T):=gS MJ yI
theorem ANB {a0}:zC [T.sl false (List.map Sy.str.enc a0)]=yI (a0):=a8 (s:=MJ) rfl (a0) rfl
theorem A02 (h:∀ a0 r,yI (a0)=some r→b8 MJ (a0)→YG a0 (fun y=>y=r)):aK Tryz.prog 97 zC :=
 aR (E:=XB) (Hs:=APS) ARZ aW aX (aM rfl) 8 ⟨_,_,Tryz.func97,rfl⟩ rfl fun x r h1 h2=>by
  let a0:=x
  rw[show Sh.bN MJ (a0)=[aC false Sy.str.li a0] from rfl,ALG]
  exact h a0 r h1 h2
theorem DP:∀ (l:List ByteArray) (x:ByteArray),n7 (l++[x])=n7 l+x.size
 | [],x=>by simp[n7]
 | a::l,x=>by simp only[List.cons_append,n7,DP l x];omega
theorem S0:∀ (l:List ByteArray) (k:Nat),n7 (l.take k)≤n7 l
 | [],k=>by simp
 | a::l,0=>by simp[n7]
 | a::l,k+1=>by simp only[List.take_succ_cons,n7];have:=S0 l k;omega
theorem AY7:aK Tryz.prog 97 zC:=A02 fun l r h hb=>by
 unfold yI at h
 split at h
 ·rename_i hsz
  simp only[Bool.and_eq_true,decide_eq_true_eq] at hsz
  obtain ⟨hl65,hs64⟩:=hsz
  cases h
  unfold YG
  refine aZ l.length (fun k t=>t=((l.length:Int)-1+n7 (l.take k),(k:Int),())∧(l.take k).all isName=true) ⟨by
   simp only[List.take_zero,n7,List.length_map,Prod.mk.injEq,and_true]
   rw[aS _ (by omega) (by omega)];simp,by simp⟩ ?_
  rintro X k t hk ⟨rfl,hall⟩ hX
  dsimp only
  by_cases hlt:k<l.length
  ·refine cV (by simp[hlt]) ?_
   rw[aT (r:=.str) hlt]
   refine aD (s:=x7) (y:=isName l[k]) xG ?_
   have hsum:=S0 l (k+1)
   have htake:l.take (k+1)=l.take k++[l[k]]:=List.take_succ_eq_append_getElem hlt
   cases hn:isName l[k] with
   | false =>
    rw[Bool.not_false,eU]
    have:l.all isName=false:=by
     rw[Bool.eq_false_iff];intro ha
     have:=List.all_eq_true.1 ha _ (List.getElem_mem hlt)
     rw[hn] at this;cases this
    rw[this];rfl
   | true =>
    rw[Bool.not_true,fV]
    rw[htake,DP] at hsum
    refine hX _ hlt ⟨?_,by rw[htake,List.all_append,hall];simp[hn]⟩
    rw[htake,DP]
    simp only[Prod.mk.injEq,and_true]
    exact ⟨by rw[aS _ (by omega) (by omega)];simp;omega,aS _ (by omega) (by omega)⟩
  ·have:k=l.length:=by omega
   subst this
   rw[List.take_length] at hall
   refine dN (by simp) ?_
   rw[List.take_length,hall]
   by_cases h1:1≤l.length
   ·refine cV (by simp only[List.length_map];omega) ?_
    by_cases h2:l.length≤8
    ·refine cV (by simp only[List.length_map];omega) ?_
     rw[decide_eq_true h1,decide_eq_true h2];rfl
    ·refine dN (by simp only[List.length_map];omega) ?_
     rw[decide_eq_false h2,Bool.and_false];rfl
   ·refine dN (by simp only[List.length_map];omega) ?_
    rw[decide_eq_false h1];rfl
 ·cases h
noncomputable def AJU:Env:=Env.of [(98,.pure sV),(97,.pure zC)]
def AXY:FuncId→Hint:=fun _=>aV
theorem AW2:aH Tryz.prog AJU:=aH.cons (x:=.pure sV) ATY (aH.cons (x:=.pure zC) AY7 (aH.nil _))
def ALF (a0:ByteArray) (R:T→Prop):Prop :=
 aB (decide ((↑(ByteArray.size a0):Int)≤64))
 (aG [(false,Sy.str.li)]
 (sV [T.v (.string a0),T.v (.string { data:=#[46] })])
 fun (y0:List ByteArray) =>
 aG [(false,Sy.bool)] (zC [T.sl false (List.map Sy.str.enc y0)])
 fun (y1:Bool)=>R (T.v (.bool y1)))
 (R (T.v (.bool false)))
theorem ASA ( a0 R):bC aY Tryz.prog AJU AXY 8 66 [aC false Sy.str a0] R=ALF a0 R:=by kernel_rfl
abbrev ABH:Sh:=[(false,Sy.str)]
abbrev ABA:Sh:=[(false,Sy.bool)]
theorem AI1 (y:Sh.den ABA) (K:Sh.den ABA→Prop):aG ABA (some (Sh.enc ABA y)) K=K y:=mF rfl y K
noncomputable def dQ:List T→Option (T):=gS ABH MT
theorem AT4 {a0}:dQ [T.v (.string a0)]=MT (a0):=a8 (s:=ABH) rfl (a0) rfl
theorem A4I (h:∀ a0 r,MT (a0)=some r→b8 ABH (a0)→ALF a0 (fun y=>y=r)):aK Tryz.prog 66 dQ :=
 aR (E:=AJU) (Hs:=AXY) AW2 aW aX (aM rfl) 8 ⟨_,_,Tryz.func66,rfl⟩ rfl fun x r h1 h2=>by
  let a0:=x
  rw[show Sh.bN ABH (a0)=[aC false Sy.str a0] from rfl,ASA]
  exact h a0 r h1 h2
theorem L2:aK Tryz.prog 66 dQ:=A4I fun s r h hb=>by
 have h':some (Sh.enc x7 (gX s))=some r:=h
 cases h'
 clear h
 unfold ALF gX
 by_cases h64:s.size≤64
 ·refine cV (by omega) ?_
  have hsum:=WC s
  have hpos:=AV3 s
  refine aD (s:=A4Y) (y:=c0 s) ?_ ?_
  ·rw[show sV [T.v (.string s),T.v (.string { data:=#[46] })]=yL (s,dot) from AH0]
   unfold yL
   rw[show decide (s.size<4294967281)=true by simp;omega,show decide (1≤dot.size)=true from rfl]
   rfl
  ·refine aD (s:=x7) (y:=(c0 s).all isName&&(decide (1≤(c0 s).length)&&decide ((c0 s).length≤8)&&decide (A48 (c0 s)≤64))) ?_ ?_
   ·rw[ANB]
    unfold yI
    rw[show (decide ((c0 s).length≤65)&&decide (n7 (c0 s)≤64))=true by simp;omega]
   ·have h1:decide (1≤(c0 s).length)=true:=decide_eq_true hpos
    have h2:decide (A48 (c0 s)≤64)=true:=decide_eq_true (by unfold A48;omega)
    have h3:decide (s.size≤64)=true:=decide_eq_true h64
    rw[h1,h2,h3]
    simp[Bool.and_comm,Sh.enc,aC,Sy.enc,hdT]
 ·refine dN (by omega) ?_
  rw[decide_eq_false h64];rfl
noncomputable def M8:Env:=Env.of [(115,.pure zF),(74,.pure dI)]
def AEI:FuncId→Hint:=fun f=>match f == 79 with|true=>⟨fun r=>match r == 5 with|true=>.inv [.val 4 false (.int .i64)]|false=>.none,fun _ _=>none,fun _=>none⟩|false=>aV
theorem AJ8:aH Tryz.prog M8:=aH.cons (x:=.pure zF) AY9 (aH.cons (x:=.pure dI) q7 (aH.nil _))
def OG (a0:ByteArray) (R:T→Prop):Prop :=
 aG [(false,Sy.str.li)] (zF [T.v (.string a0)]) fun (y0:List ByteArray) =>
 aB (decide (64<(↑(ByteArray.size a0):Int))) (R (T.v (.bool false)))
 (aB (decide (8<(↑(List.map Sy.str.enc y0).length:Int))) (R (T.v (.bool false)))
 (bA (Int×PUnit)
 (fun (X1:Int×PUnit→Prop) (s2:Int×PUnit) =>
 aB (decide (s2.1<(↑(List.map Sy.str.enc y0).length:Int)))
 (aO Sy.str (List.map Sy.str.enc y0) s2.1 fun (y3:ByteArray) =>
 aG [(false,Sy.bool)] (dI [T.v (.string y3)])
 fun (y4:Bool) =>
 aB (!y4) (R (T.v (.bool false))) (X1 (IntKind.i64.wrap (s2.1+1),())))
 (R (T.v (.bool true))))
 (0,())))
theorem ADA ( a0 R):bC aY Tryz.prog M8 AEI 8 79 [aC false Sy.str a0] R=OG a0 R:=by kernel_rfl
abbrev FH:Sh:=[(false,Sy.str)]
noncomputable def dK:List T→Option (T):=gS FH uF
theorem AGW {a0}:dK [T.v (.string a0)]=uF (a0):=a8 (s:=FH) rfl (a0) rfl
theorem AU0 (h:∀ a0 r,uF (a0)=some r→b8 FH (a0)→OG a0 (fun y=>y=r)):aK Tryz.prog 79 dK :=
 aR (E:=M8) (Hs:=AEI) AJ8 aW aX (aM rfl) 8 ⟨_,_,Tryz.func79,rfl⟩ rfl fun x r h1 h2=>by
  let a0:=x
  rw[show Sh.bN FH (a0)=[aC false Sy.str a0] from rfl,ADA]
  exact h a0 r h1 h2
theorem yX:aK Tryz.prog 79 dK:=AU0 fun s r h hb=>by
 unfold uF at h
 split at h
 ·rename_i hsz
  have h300:s.size≤1099511627776:=of_decide_eq_true hsz
  cases h
  unfold OG gX
  have hsum:=WC s
  refine aD (s:=A4Y) (y:=c0 s) (by rw[ANF];unfold yJ;rw[hsz]) ?_
  generalize c0 s=l at *
  by_cases h64:64<s.size
  ·refine cV (by omega) ?_
   rw[decide_eq_false (show ¬ s.size≤64 by omega)];rfl
  ·refine dN (by omega) ?_
   rw[decide_eq_true (show s.size≤64 by omega)]
   by_cases h8:8<l.length
   ·refine cV (by simp only[List.length_map];omega) ?_
    rw[decide_eq_false (show ¬ l.length≤8 by omega)];rfl
   ·refine dN (by simp only[List.length_map];omega) ?_
    rw[decide_eq_true (show l.length≤8 by omega)]
    refine aZ l.length (fun k t=>t=((k:Int),())∧(l.take k).all isName=true) ⟨rfl,by simp⟩ ?_
    rintro X k t hk ⟨rfl,hall⟩ hX
    dsimp only
    by_cases hlt:k<l.length
    ·refine cV (by simp[hlt]) ?_
     rw[aT (r:=.str) hlt]
     refine aD (s:=x7) (y:=isName l[k]) mZ ?_
     cases hn:isName l[k] with
     | false =>
      rw[Bool.not_false,eU]
      have:l.all isName=false:=by
       rw[Bool.eq_false_iff];intro ha
       have:=List.all_eq_true.1 ha _ (List.getElem_mem hlt)
       rw[hn] at this;cases this
      rw[this];rfl
     | true =>
      rw[Bool.not_true,fV]
      exact hX _ hlt ⟨by rw[show IntKind.i64.wrap ((k:Int)+1)=((k+1:Nat):Int) from aS _ (by omega) (by omega)],by rw[List.take_succ_eq_append_getElem hlt,List.all_append,hall];simp[hn]⟩
    ·have:k=l.length:=by omega
     subst this
     rw[List.take_length] at hall
     refine dN (by simp) ?_
     rw[hall];rfl
 ·cases h
end Go.Pv
namespace Go.Pv
open Go Go.Proofs
def Seen (es:List (ByteArray×Bool)) (S:ByteArray→Prop):Prop:=(∀ id b,iT es id=some b→b=true)∧∀ id,iT es id=some true↔S id
theorem Seen.nil:Seen [] fun _=>False:=⟨fun id b h=>(by cases h),fun id=>⟨fun h=>(by cases h),fun h=>h.elim⟩⟩
theorem Seen.ins {es:List (ByteArray×Bool)} {S:ByteArray→Prop} (h:Seen es S) (k:ByteArray):Seen (wS es k true) fun id=>S id∨k=id:=by
 refine ⟨fun id b hb=>?_,fun id=>?_⟩
 ·rw[xM] at hb
  split at hb
  ·cases hb;rfl
  ·exact h.1 id b hb
 ·rw[xM]
  split
  ·rename_i e;exact ⟨fun _=>.inr e,fun _=>rfl⟩
  ·rename_i e;rw[h.2];exact ⟨.inl,fun h=>h.resolve_right e⟩
theorem Seen.congr {es:List (ByteArray×Bool)} {S S':ByteArray→Prop} (h:Seen es S) (e:∀ id,S id↔S' id):Seen es S':=⟨h.1,fun id=>(h.2 id).trans (e id)⟩
abbrev RS:=List (Value×T)×Nat×List Nat×Nat
theorem AYU {m:List (ByteArray×Int)} {seen:List Nat} {i:Nat} (hi:i<m.length) (K:ByteArray→Int→Prop) (hk:K m[i].1 m[i].2):LR .str false (.int .i64) (qL (bI m)) (seen++[i]) K :=
 ⟨i,m[i].1,m[i].2,by simp,by simp only[qL,bI,List.map_map,List.getElem?_map,List.getElem?_eq_getElem hi];rfl,hk⟩
theorem A27 {m:List (ByteArray×Int)} {es:List (ByteArray×Bool)} {S:ByteArray→Prop} {R7 K:Prop} (hS:Seen es S) (hbad:(∃ i,∃ h:i<m.length,S m[i].1)→R7) (hgood:(∀ i (h:i<m.length),¬ S m[i].1)→K) :
  bA (RS×PUnit) (fun (X:RS×PUnit→Prop) (s:RS×PUnit)=>bP (decide (s.1.1.length≤s.1.2.1)&&decide (s.1.2.1≤s.1.2.2.2)) (w9 s.1.1.length s.1.2.2.1 K fun (i:Nat) =>
   bP (decide (s.1.1.length=s.1.1.length)) (LR Sy.str false (Sy.int IntKind.i64) (qL s.1.1) (s.1.2.2.1++[i]) fun (k:ByteArray) (y:Int) =>
    gK TypeDesc.string (Value.string k) (List.map (cE Sy.str false Sy.bool) es) false Sy.bool (X ((s.1.1,s.1.2.1,s.1.2.2.1++[i],s.1.1.length),())) fun (j:Nat) (b:Bool) =>
     aB b R7 (X ((s.1.1,s.1.2.1,s.1.2.2.1++[i],s.1.1.length),()))))) ((bI m,(bI m).length,[],(bI m).length),()):=by
 have hml:(bI m).length=m.length:=by simp[bI]
 refine aZ m.length (fun k t=>∃ seen,t=((bI m,(bI m).length,seen,(bI m).length),())∧(cK m.length seen).length+k≤m.length∧∀ i (h:i<m.length),i∈seen→¬ S m[i].1) ⟨[],rfl,by rw[LB];omega,by simp⟩ ?_
 rintro X k t hk ⟨seen,rfl,hlen,hJ⟩ hX
 dsimp only
 refine ⟨by simp,?_,?_⟩
 ·intro hm
  rw[hml] at hm
  refine hgood fun i hi=>hJ i hi ?_
  refine Classical.byContradiction fun hc=>?_
  have:i∈cK m.length seen:=rF.2 ⟨hi,hc⟩
  rw[hm] at this;cases this
 ·intro i hi
  rw[hml] at hi
  have hi1:=(rF.1 hi).1
  have hst:=EU hi
  refine ⟨by simp,AYU hi1 _ ?_⟩
  have go:¬ S m[i].1→X ((bI m,(bI m).length,seen++[i],(bI m).length),()):=fun hn=>hX _ (by omega) ⟨_,rfl,by omega,fun j hj hm=>by
   rcases List.mem_append.1 hm with h|h
   ·exact hJ j hj h
   ·simp at h;subst h;exact hn⟩
  refine D8 (r:=.bool) (fun hno=>go fun h=>?_) fun j b hb=>?_
  ·have:=(hS.2 m[i].1).2 h
   rw[hno] at this;cases this
  ·have:=hS.1 _ _ hb
   subst this
   rw[eU]
   exact hbad ⟨i,hi1,(hS.2 _).1 hb⟩
theorem A20 {m:List (ByteArray×Int)} {es:List (ByteArray×Bool)} {S:ByteArray→Prop} {K:List (ByteArray×Bool)×RS×PUnit→Prop} (hS:Seen es S) (hgood:∀ es' rs,Seen es' (fun id=>S id∨∃ i,∃ h:i<m.length,m[i].1=id)→K (es',rs,())) :
  dU Sy.str false Sy.bool (List.map (cE Sy.str false Sy.bool) es) fun (y:List (ByteArray×Bool)) =>
  bA (List (ByteArray×Bool)×RS×PUnit) (fun (X:List (ByteArray×Bool)×RS×PUnit→Prop) (s:List (ByteArray×Bool)×RS×PUnit)=>bP (decide (s.2.1.1.length≤s.2.1.2.1)&&decide (s.2.1.2.1≤s.2.1.2.2.2)) (w9 s.2.1.1.length s.2.1.2.2.1 (K s) fun (i:Nat) =>
   bP (decide (s.2.1.1.length=s.2.1.1.length)) (LR Sy.str false (Sy.int IntKind.i64) (qL s.2.1.1) (s.2.1.2.2.1++[i]) fun (k:ByteArray) (y:Int) =>
    oF (Option (Nat×D)) (findD TypeDesc.string (RC Sy.str k) (List.map (cE Sy.str false Sy.bool) s.1) 0) fun (y37:Option (Nat×D)) =>
     dU Sy.str false Sy.bool (eX (List.map (cE Sy.str false Sy.bool) s.1) y37 (Value.string k) (D.p (T.v (.bool true)))) fun (y38:List (ByteArray×Bool)) =>
      X (y38,(s.2.1.1,s.2.1.2.1,s.2.1.2.2.1++[i],s.2.1.1.length),())))) (y,(bI m,(bI m).length,[],(bI m).length),()):=by
 have hml:(bI m).length=m.length:=by simp[bI]
 refine nK (r:=.bool) rfl es _ ?_
 refine aZ m.length (fun k t=>∃ seen es',t=(es',(bI m,(bI m).length,seen,(bI m).length),())∧(cK m.length seen).length+k≤m.length∧Seen es' (fun id=>S id∨∃ i,∃ h:i<m.length,i∈seen∧m[i].1=id)) ⟨[],es,rfl,by rw[LB];omega,hS.congr (by simp)⟩ ?_
 rintro X k t hk ⟨seen,es',rfl,hlen,hJ⟩ hX
 dsimp only
 refine ⟨by simp,?_,?_⟩
 ·intro hm
  rw[hml] at hm
  refine hgood _ _ (hJ.congr fun id=>⟨fun h=>h.imp_right fun ⟨i,hi,_,e⟩=>⟨i,hi,e⟩,fun h=>h.imp_right fun ⟨i,hi,e⟩=>⟨i,hi,?_,e⟩⟩)
  refine Classical.byContradiction fun hc=>?_
  have:i∈cK m.length seen:=rF.2 ⟨hi,hc⟩
  rw[hm] at this;cases this
 ·intro i hi
  rw[hml] at hi
  have hi1:=(rF.1 hi).1
  have hst:=EU hi
  refine ⟨by simp,AYU hi1 _ ?_⟩
  refine AZ0 (r:=.bool) rfl (es:=es') (k:=m[i].1) (v:=true) (hX _ (by omega) ⟨seen++[i],_,rfl,by omega,(hJ.ins _).congr fun id=>⟨?_,?_⟩⟩)
  ·rintro ((h|⟨j,hj,hm,e⟩)|h)
   ·exact .inl h
   ·exact .inr ⟨j,hj,by simp[hm],e⟩
   ·exact .inr ⟨i,hi1,by simp,h⟩
  ·rintro (h|⟨j,hj,hm,e⟩)
   ·exact .inl (.inl h)
   ·rcases List.mem_append.1 hm with hm|hm
    ·exact .inl (.inr ⟨j,hj,hm,e⟩)
    ·simp at hm;subst hm;exact .inr e
def ltN (a b:fQ):Bool:=decide (a.1<b.1)||(decide (a.1=b.1)&&(dR a.2.1 b.2.1||(decide (a.2.1=b.2.1)&&dR a.2.2 b.2.2)))
def CE:List fQ→Bool
 | a::b::l=>ltN a b&&CE (b::l)
 | _=>true
theorem U0 {l:List fQ} {k:Nat} (h:k+1<l.length):CE (l.drop k)=(ltN l[k] l[k+1]&&CE (l.drop (k+1))):=by
 rw[List.drop_eq_getElem_cons (show k<l.length by omega),List.drop_eq_getElem_cons h,CE]
theorem AFQ {l:List fQ} {k:Nat} (h:l.length≤k+1):CE (l.drop k)=true:=by
 rcases Nat.lt_or_ge k l.length with h1|h1
 ·rw[List.drop_eq_getElem_cons h1,List.drop_eq_nil_of_le h];rfl
 ·rw[List.drop_eq_nil_of_le h1];rfl
theorem VQ (k:ByteArray) (v:Int) (id:ByteArray):∀ es:List (ByteArray×Int),id∈(wS es k v).map (fun e=>e.1)↔id∈es.map (fun e=>e.1)∨id=k
 | []=>by simp[wS]
 | e::es=>by
  simp only[wS]
  split
  ·rename_i h
   simp only[List.map_cons,List.mem_cons]
   rw[←h]
   constructor
   ·rintro (h|h)
    ·exact .inl (.inl h)
    ·exact .inl (.inr h)
   ·rintro ((h|h)|h)
    ·exact .inl h
    ·exact .inr h
    ·exact .inl h
  ·simp only[List.map_cons,List.mem_cons,VQ k v id es,or_assoc]
theorem VT (id:ByteArray):∀ (l:List ByteArray) (i:Nat) (es:List (ByteArray×Int)),id∈(I4 l i es).map (fun e=>e.1)↔id∈es.map (fun e=>e.1)∨id∈l
 | [],i,es=>by simp[I4]
 | a::l,i,es=>by
  simp only[I4]
  rw[VT id l]
  cases h:iT es a with
  | none=>simp only[VQ,List.mem_cons,or_assoc]
  | some v =>
   simp only[List.mem_cons]
   have ha:a∈es.map (fun e=>e.1):=by
    rcases u9 a es with ⟨h1,_⟩|⟨j,hj,h1,_⟩
    ·rw[h] at h1;cases h1
    ·exact List.mem_map.2 ⟨es[j],List.getElem_mem hj,h1⟩
   constructor
   ·rintro (h|h)
    ·exact .inl h
    ·exact .inr (.inr h)
   ·rintro (h|rfl|h)
    ·exact .inl h
    ·exact .inl ha
    ·exact .inr h
theorem kE {l:List ByteArray} {id:ByteArray}:(∃ i,∃ h:i<(hH l).length,(hH l)[i].1=id)↔id∈l:=by
 have h:=VT id l 0 []
 simp only[List.map_nil,List.not_mem_nil,false_or] at h
 rw[←h,List.mem_map]
 constructor
 ·rintro ⟨i,hi,e⟩;exact ⟨_,List.getElem_mem hi,e⟩
 ·rintro ⟨e,he,h⟩
  obtain ⟨i,hi,rfl⟩:=List.mem_iff_getElem.1 he
  exact ⟨i,hi,h⟩
def BR (a0:aF) (m1:List (ByteArray×Int)) (m2:List (ByteArray×Int)) (m3:List (ByteArray×Int)) (m4:List (ByteArray×Int)):List T:=[S2 a0 m1 m2 m3 m4]
noncomputable def AJT:Env:=Env.of [(61,.pure sT)]
def AXX:FuncId→Hint:=fun f=>match f == 24 with|true=>⟨fun r=>match r == 9 with|true=>.inv [.val 4 false .bool,.val 5 false (.int .i64)]|false=>match r == 17 with|true=>.KI 5|false=>match r == 20 with|true=>.alts [[.bT 30],[.bT 29],[.bT 28],[.bT 27],[.bT 26],[.bT 25],[.bT 24],[.bT 23],[.bT 22],[.bT 21],[.bT 20],[.bT 19],[.bT 18],[.bT 17],[.bT 16],[.bT 15],[.bT 14],[.bT 13],[.bT 12],[.bT 11],[.bT 10],[.bT 9],[.bT 8],[.bT 7],[.bT 6],[.bT 5],[.bT 4],[.bT 3],[.bT 2]]|false=>match r == 25 with|true=>.alts [[.map 2 .str false .bool,.bT 30],[.map 2 .str false .bool,.bT 29],[.map 2 .str false .bool,.bT 28],[.map 2 .str false .bool,.bT 27],[.map 2 .str false .bool,.bT 26],[.map 2 .str false .bool,.bT 25],[.map 2 .str false .bool,.bT 24],[.map 2 .str false .bool,.bT 23],[.map 2 .str false .bool,.bT 22],[.map 2 .str false .bool,.bT 21],[.map 2 .str false .bool,.bT 20],[.map 2 .str false .bool,.bT 19],[.map 2 .str false .bool,.bT 18],[.map 2 .str false .bool,.bT 17],[.map 2 .str false .bool,.bT 16],[.map 2 .str false .bool,.bT 15],[.map 2 .str false .bool,.bT 14],[.map 2 .str false .bool,.bT 13],[.map 2 .str false .bool,.bT 12],[.map 2 .str false .bool,.bT 11],[.map 2 .str false .bool,.bT 10],[.map 2 .str false .bool,.bT 9],[.map 2 .str false .bool,.bT 8],[.map 2 .str false .bool,.bT 7],[.map 2 .str false .bool,.bT 6],[.map 2 .str false .bool,.bT 5],[.map 2 .str false .bool,.bT 4],[.map 2 .str false .bool,.bT 3],[.map 2 .str false .bool,.bT 2]]|false=>.none,fun i j=>match i == 5&&j == 5 with|true=>some [.val 4 false .bool]|false=>match i == 6&&j == 6 with|true=>some [.val 4 false .bool]|false=>match i == 7&&j == 7 with|true=>some [.val 4 false .bool]|false=>none,fun r=>match r == 21 with|true=>some (.str,false,(.int .i64))|false=>match r == 26 with|true=>some (.str,false,(.int .i64))|false=>none⟩|false=>aV
theorem AW1:aH Tryz.prog AJT:=aH.cons (x:=.pure sT) A5T (aH.nil _)
def ALC (a0:aF) (m1:List (ByteArray×Int)) (m2:List (ByteArray×Int)) (m3:List (ByteArray×Int)) (m4:List (ByteArray×Int)) (R:T→Prop):Prop :=
 aB (decide (64<(↑(List.map bE.enc a0.2.1).length:Int)))
 (R (T.v (.int .i64 4)))
 (aB (decide (256<(↑(List.map aU.enc a0.2.2.1).length:Int)))
 (R (T.v (.int .i64 4)))
 (aB (decide (256<(↑(List.map a6.enc a0.2.2.2.1).length:Int)))
 (R (T.v (.int .i64 4)))
 (aB (decide (64<(↑(List.map aP.enc a0.2.2.2.2.1).length:Int)))
 (R (T.v (.int .i64 4)))
 (aB (decide (256<(↑(List.map aQ.enc a0.2.2.2.2.2).length:Int)))
 (R (T.v (.int .i64 4)))
 (aG [(false,Sy.bool)]
 (sT
 [T.v (.int .i64 (↑(List.map bE.enc a0.2.1).length:Int)),
 T.fn 62 []
 [T.ref
 [T.ref
 [T.v (.string a0.1),T.sl false (List.map bE.enc a0.2.1),
 T.sl false (List.map aU.enc a0.2.2.1),
 T.sl false (List.map a6.enc a0.2.2.2.1),
 T.sl false (List.map aP.enc a0.2.2.2.2.1),
 T.sl false (List.map aQ.enc a0.2.2.2.2.2)]]]])
 fun (y0:Bool) =>
 rD (Bool×PUnit)
 (fun (X1:Bool×PUnit→Prop) =>
 aB y0
 (aG [(false,Sy.bool)]
 (sT
 [T.v
 (Value.int IntKind.i64 (↑(List.map aU.enc a0.2.2.1).length:Int)),
 T.fn 63 []
 [T.ref
 [T.ref
 [T.v (.string a0.1),
 T.sl false (List.map bE.enc a0.2.1),
 T.sl false (List.map aU.enc a0.2.2.1),
 T.sl false (List.map a6.enc a0.2.2.2.1),
 T.sl false (List.map aP.enc a0.2.2.2.2.1),
 T.sl false (List.map aQ.enc a0.2.2.2.2.2)]]]])
 fun (y2:Bool)=>X1 (y2,()))
 (X1 (false,())))
 fun (s3:Bool×PUnit) =>
 rD (Bool×PUnit)
 (fun (X4:Bool×PUnit→Prop) =>
 aB s3.1
 (aG [(false,Sy.bool)]
 (sT
 [T.v
 (Value.int IntKind.i64 (↑(List.map a6.enc a0.2.2.2.1).length:Int)),
 T.fn 64 []
 [T.ref
 [T.ref
 [T.v (.string a0.1),
 T.sl false (List.map bE.enc a0.2.1),
 T.sl false (List.map aU.enc a0.2.2.1),
 T.sl false (List.map a6.enc a0.2.2.2.1),
 T.sl false (List.map aP.enc a0.2.2.2.2.1),
 T.sl false (List.map aQ.enc a0.2.2.2.2.2)]]]])
 fun (y5:Bool)=>X4 (y5,()))
 (X4 (false,())))
 fun (s6:Bool×PUnit) =>
 rD (Bool×PUnit)
 (fun (X7:Bool×PUnit→Prop) =>
 aB s6.1
 (aG [(false,Sy.bool)]
 (sT
 [T.v
 (Value.int IntKind.i64
 (↑(List.map aP.enc a0.2.2.2.2.1).length:Int)),
 T.fn 65 []
 [T.ref
 [T.ref
 [T.v (.string a0.1),
 T.sl false (List.map bE.enc a0.2.1),
 T.sl false (List.map aU.enc a0.2.2.1),
 T.sl false (List.map a6.enc a0.2.2.2.1),
 T.sl false (List.map aP.enc a0.2.2.2.2.1),
 T.sl false (List.map aQ.enc a0.2.2.2.2.2)]]]])
 fun (y8:Bool)=>X7 (y8,()))
 (X7 (false,())))
 fun (s9:Bool×PUnit) =>
 bA (Bool×Int×PUnit)
 (fun (X10:Bool×Int×PUnit→Prop) (s11:Bool×Int×PUnit) =>
 aB
 (decide (s11.2.1<(↑(List.map aQ.enc a0.2.2.2.2.2).length:Int)))
 (aO aQ (List.map aQ.enc a0.2.2.2.2.2)
 (IntKind.i64.wrap (s11.2.1-1)) fun (y12:fQ) =>
 aO aQ (List.map aQ.enc a0.2.2.2.2.2) s11.2.1
 fun (y13:fQ) =>
 aB s11.1
 (aB (decide (y12.1<y13.1))
 (X10 (true,IntKind.i64.wrap (s11.2.1+1),()))
 (aB (decide (y12.1=y13.1))
 (aB (dR y12.2.1 y13.2.1)
 (X10 (true,IntKind.i64.wrap (s11.2.1+1),()))
 (aB (decide (y12.2.1=y13.2.1))
 (X10
 (dR y12.2.2 y13.2.2,IntKind.i64.wrap (s11.2.1+1),
 ()))
 (X10 (false,IntKind.i64.wrap (s11.2.1+1),()))))
 (X10 (false,IntKind.i64.wrap (s11.2.1+1),()))))
 (X10 (false,IntKind.i64.wrap (s11.2.1+1),())))
 (aB (!s11.1) (R (T.v (.int .i64 11)))
 (bA ((List (Value×T)×Nat×List Nat×Nat)×PUnit)
 (fun (X14:(List (Value×T)×Nat×List Nat×Nat)×PUnit→Prop)
 (s15:(List (Value×T)×Nat×List Nat×Nat)×PUnit) =>
 bP
 (decide (s15.1.1.length≤s15.1.2.1) &&
 decide (s15.1.2.1≤s15.1.2.2.2))
 (w9 s15.1.1.length s15.1.2.2.1
 (dU Sy.str false Sy.bool []
 fun (y16:List (ByteArray×Bool)) =>
 bA
 (List (ByteArray×Bool) ×
 (List (Value×T)×Nat×List Nat×Nat)×PUnit)
 (fun
 (X17 :
 List (ByteArray×Bool) ×
 (List (Value×T)×Nat×List Nat×Nat)×PUnit →
 Prop)
 (s18 :
 List (ByteArray×Bool) ×
 (List (Value×T)×Nat×List Nat×Nat)×PUnit) =>
 bP
 (decide (s18.2.1.1.length≤s18.2.1.2.1) &&
 decide (s18.2.1.2.1≤s18.2.1.2.2.2))
 (w9 s18.2.1.1.length s18.2.1.2.2.1
 (bA ((List (Value×T)×Nat×List Nat×Nat)×PUnit)
 (fun
 (X19 :
 (List (Value×T)×Nat×List Nat×Nat)×PUnit→Prop)
 (s20:(List (Value×T)×Nat×List Nat×Nat)×PUnit) =>
 bP
 (decide (s20.1.1.length≤s20.1.2.1) &&
 decide (s20.1.2.1≤s20.1.2.2.2))
 (w9 s20.1.1.length s20.1.2.2.1
 (dU Sy.str false Sy.bool
 (List.map (cE Sy.str false Sy.bool) s18.1)
 fun (y21:List (ByteArray×Bool)) =>
 bA
 (List (ByteArray×Bool) ×
 (List (Value×T)×Nat×List Nat×Nat)×PUnit)
 (fun
 (X22 :
 List (ByteArray×Bool) ×
 (List (Value×T)×Nat×List Nat×Nat) ×
 PUnit →
 Prop)
 (s23 :
 List (ByteArray×Bool) ×
 (List (Value×T)×Nat×List Nat×Nat) ×
 PUnit) =>
 bP
 (decide (s23.2.1.1.length≤s23.2.1.2.1) &&
 decide (s23.2.1.2.1≤s23.2.1.2.2.2))
 (w9 s23.2.1.1.length s23.2.1.2.2.1
 (bA
 ((List (Value×T)×Nat×List Nat×Nat) ×
 PUnit)
 (fun
 (X24 :
 (List (Value×T) ×
 Nat×List Nat×Nat) ×
 PUnit →
 Prop)
 (s25 :
 (List (Value×T) ×
 Nat×List Nat×Nat) ×
 PUnit) =>
 bP
 (decide (s25.1.1.length≤s25.1.2.1) &&
 decide (s25.1.2.1≤s25.1.2.2.2))
 (w9 s25.1.1.length s25.1.2.2.1
 (dU Sy.str false Sy.bool
 (List.map
 (cE Sy.str false Sy.bool)
 s23.1)
 fun (y26:List (ByteArray×Bool)) =>
 bA
 (List (ByteArray×Bool) ×
 (List (Value×T) ×
 Nat×List Nat×Nat) ×
 PUnit)
 (fun
 (X27 :
 List (ByteArray×Bool) ×
 (List (Value×T) ×
 Nat×List Nat×Nat) ×
 PUnit →
 Prop)
 (s28 :
 List (ByteArray×Bool) ×
 (List (Value×T) ×
 Nat×List Nat×Nat) ×
 PUnit) =>
 bP
 (decide
 (s28.2.1.1.length ≤
 s28.2.1.2.1) &&
 decide
 (s28.2.1.2.1 ≤
 s28.2.1.2.2.2))
 (w9 s28.2.1.1.length
 s28.2.1.2.2.1
 (bA
 ((List (Value×T) ×
 Nat×List Nat×Nat) ×
 PUnit)
 (fun
 (X29 :
 (List (Value×T) ×
 Nat×List Nat×Nat) ×
 PUnit →
 Prop)
 (s30 :
 (List (Value×T) ×
 Nat×List Nat×Nat) ×
 PUnit) =>
 bP
 (decide
 (s30.1.1.length ≤
 s30.1.2.1) &&
 decide
 (s30.1.2.1 ≤
 s30.1.2.2.2))
 (w9 s30.1.1.length
 s30.1.2.2.1
 (dU Sy.str false
 Sy.bool
 (List.map
 (cE Sy.str
 false Sy.bool)
 s28.1)
 fun
 (y31 :
 List
 (ByteArray×Bool)) =>
 bA
 (List (ByteArray×Bool) ×
 (List
 (Value ×
 T) ×
 Nat ×
 List Nat×Nat) ×
 PUnit)
 (fun
 (X32 :
 List
 (ByteArray ×
 Bool) ×
 (List
 (Value ×
 T) ×
 Nat ×
 List Nat ×
 Nat) ×
 PUnit →
 Prop)
 (s33 :
 List
 (ByteArray ×
 Bool) ×
 (List
 (Value ×
 T) ×
 Nat ×
 List Nat ×
 Nat) ×
 PUnit) =>
 bP
 (decide
 (s33.2.1.1.length ≤
 s33.2.1.2.1) &&
 decide
 (s33.2.1.2.1 ≤
 s33.2.1.2.2.2))
 (w9
 s33.2.1.1.length
 s33.2.1.2.2.1
 (R
 (T.v
 (Value.int
 IntKind.i64
 0)))
 fun (i34:Nat) =>
 bP
 (decide
 (s33.2.1.1.length =
 s33.2.1.1.length))
 (LR
 Sy.str false
 (Sy.int
 IntKind.i64)
 (qL
 s33.2.1.1)
 (s33.2.1.2.2.1 ++
 [i34])
 fun
 (k35 :
 ByteArray)
 (y36:Int) =>
 oF
 (Option
 (Nat ×
 D))
 (findD
 TypeDesc.string
 (RC
 Sy.str
 k35)
 (List.map
 (cE
 Sy.str
 false
 Sy.bool)
 s33.1)
 0)
 fun
 (y37 :
 Option
 (Nat ×
 D)) =>
 dU
 Sy.str
 false
 Sy.bool
 (eX
 (List.map
 (cE
 Sy.str
 false
 Sy.bool)
 s33.1)
 y37
 (Value.string
 k35)
 (D.p
 (T.v
 (Value.bool
 true))))
 fun
 (y38 :
 List
 (ByteArray ×
 Bool)) =>
 X32
 (y38,
 (s33.2.1.1,
 s33.2.1.2.1,
 s33.2.1.2.2.1 ++
 [i34],
 s33.2.1.1.length),
 ()))))
 (y31,
 (bI m4,
 (bI m4).length,
 [],
 (bI m4).length),
 ()))
 fun (i39:Nat) =>
 bP
 (decide
 (s30.1.1.length =
 s30.1.1.length))
 (LR Sy.str false
 (Sy.int
 IntKind.i64)
 (qL s30.1.1)
 (s30.1.2.2.1 ++
 [i39])
 fun (k40:ByteArray)
 (y41:Int) =>
 gK
 TypeDesc.string
 (Value.string k40)
 (List.map
 (cE Sy.str
 false Sy.bool)
 s28.1)
 false Sy.bool
 (X29
 ((s30.1.1,
 s30.1.2.1,
 s30.1.2.2.1 ++
 [i39],
 s30.1.1.length),
 ()))
 fun (i42:Nat)
 (y43:Bool) =>
 aB y43
 (R
 (T.v
 (Value.int
 IntKind.i64
 7)))
 (X29
 ((s30.1.1,
 s30.1.2.1,
 s30.1.2.2.1 ++
 [i39],
 s30.1.1.length),
 ())))))
 ((bI m4,
 (bI m4).length,[],
 (bI m4).length),
 ()))
 fun (i44:Nat) =>
 bP
 (decide
 (s28.2.1.1.length =
 s28.2.1.1.length))
 (LR Sy.str false
 (Sy.int IntKind.i64)
 (qL s28.2.1.1)
 (s28.2.1.2.2.1++[i44])
 fun (k45:ByteArray) (y46:Int) =>
 oF (Option (Nat×D))
 (findD TypeDesc.string
 (RC Sy.str k45)
 (List.map
 (cE Sy.str false
 Sy.bool)
 s28.1)
 0)
 fun
 (y47 :
 Option (Nat×D)) =>
 dU Sy.str false
 Sy.bool
 (eX
 (List.map
 (cE Sy.str
 false Sy.bool)
 s28.1)
 y47 (Value.string k45)
 (D.p
 (T.v
 (Value.bool true))))
 fun
 (y48 :
 List (ByteArray×Bool)) =>
 X27
 (y48,
 (s28.2.1.1,
 s28.2.1.2.1,
 s28.2.1.2.2.1 ++
 [i44],
 s28.2.1.1.length),
 ()))))
 (y26,
 (bI m3,(bI m3).length,[],
 (bI m3).length),
 ()))
 fun (i49:Nat) =>
 bP
 (decide
 (s25.1.1.length=s25.1.1.length))
 (LR Sy.str false
 (Sy.int IntKind.i64)
 (qL s25.1.1)
 (s25.1.2.2.1++[i49])
 fun (k50:ByteArray) (y51:Int) =>
 gK TypeDesc.string
 (Value.string k50)
 (List.map
 (cE Sy.str false
 Sy.bool)
 s23.1)
 false Sy.bool
 (X24
 ((s25.1.1,s25.1.2.1,
 s25.1.2.2.1++[i49],
 s25.1.1.length),
 ()))
 fun (i52:Nat) (y53:Bool) =>
 aB y53
 (R
 (T.v
 (Value.int IntKind.i64 7)))
 (X24
 ((s25.1.1,s25.1.2.1,
 s25.1.2.2.1++[i49],
 s25.1.1.length),
 ())))))
 ((bI m3,(bI m3).length,[],
 (bI m3).length),
 ()))
 fun (i54:Nat) =>
 bP
 (decide
 (s23.2.1.1.length=s23.2.1.1.length))
 (LR Sy.str false
 (Sy.int IntKind.i64)
 (qL s23.2.1.1)
 (s23.2.1.2.2.1++[i54])
 fun (k55:ByteArray) (y56:Int) =>
 oF (Option (Nat×D))
 (findD TypeDesc.string
 (RC Sy.str k55)
 (List.map
 (cE Sy.str false Sy.bool)
 s23.1)
 0)
 fun (y57:Option (Nat×D)) =>
 dU Sy.str false Sy.bool
 (eX
 (List.map
 (cE Sy.str false Sy.bool)
 s23.1)
 y57 (Value.string k55)
 (D.p (T.v (.bool true))))
 fun (y58:List (ByteArray×Bool)) =>
 X22
 (y58,
 (s23.2.1.1,s23.2.1.2.1,
 s23.2.1.2.2.1++[i54],
 s23.2.1.1.length),
 ()))))
 (y21,
 (bI m2,(bI m2).length,[],
 (bI m2).length),
 ()))
 fun (i59:Nat) =>
 bP (decide (s20.1.1.length=s20.1.1.length))
 (LR Sy.str false (Sy.int IntKind.i64)
 (qL s20.1.1) (s20.1.2.2.1++[i59])
 fun (k60:ByteArray) (y61:Int) =>
 gK TypeDesc.string (Value.string k60)
 (List.map (cE Sy.str false Sy.bool)
 s18.1)
 false Sy.bool
 (X19
 ((s20.1.1,s20.1.2.1,
 s20.1.2.2.1++[i59],s20.1.1.length),
 ()))
 fun (i62:Nat) (y63:Bool) =>
 aB y63 (R (T.v (.int .i64 7)))
 (X19
 ((s20.1.1,s20.1.2.1,
 s20.1.2.2.1++[i59],s20.1.1.length),
 ())))))
 ((bI m2,(bI m2).length,[],(bI m2).length),()))
 fun (i64:Nat) =>
 bP (decide (s18.2.1.1.length=s18.2.1.1.length))
 (LR Sy.str false (Sy.int IntKind.i64)
 (qL s18.2.1.1) (s18.2.1.2.2.1++[i64])
 fun (k65:ByteArray) (y66:Int) =>
 oF (Option (Nat×D))
 (findD TypeDesc.string (RC Sy.str k65)
 (List.map (cE Sy.str false Sy.bool) s18.1) 0)
 fun (y67:Option (Nat×D)) =>
 dU Sy.str false Sy.bool
 (eX
 (List.map (cE Sy.str false Sy.bool) s18.1)
 y67 (Value.string k65)
 (D.p (T.v (.bool true))))
 fun (y68:List (ByteArray×Bool)) =>
 X17
 (y68,
 (s18.2.1.1,s18.2.1.2.1,
 s18.2.1.2.2.1++[i64],s18.2.1.1.length),
 ()))))
 (y16,(bI m1,(bI m1).length,[],(bI m1).length),()))
 fun (i69:Nat) =>
 bP (decide (s15.1.1.length=s15.1.1.length))
 (LR Sy.str false (Sy.int IntKind.i64) (qL s15.1.1)
 (s15.1.2.2.1++[i69]) fun (k70:ByteArray) (y71:Int) =>
 gK TypeDesc.string (Value.string k70) [] false Sy.bool
 (X14
 ((s15.1.1,s15.1.2.1,s15.1.2.2.1++[i69],
 s15.1.1.length),
 ()))
 fun (i72:Nat) (y73:Bool) =>
 aB y73 (R (T.v (.int .i64 7)))
 (X14
 ((s15.1.1,s15.1.2.1,s15.1.2.2.1++[i69],
 s15.1.1.length),
 ())))))
 ((bI m1,(bI m1).length,[],(bI m1).length),()))))
 (s9.1,1,()))))))
theorem AR9 ( a0 m1 m2 m3 m4 R):bC aY Tryz.prog AJT AXX 8 24 (BR a0 m1 m2 m3 m4) R=ALC a0 m1 m2 m3 m4 R:=by kernel_rfl
abbrev MP:=List (ByteArray×Int)
theorem D3 {a b:MP} (h:bI a=bI b):a=b:=map_inj (fun x y h=>by
 simp only[Prod.mk.injEq,Value.string.injEq,T.v.injEq,Value.int.injEq,true_and] at h
 exact Prod.ext h.1 h.2) h
theorem qJ {x y:aF×MP×MP×MP×MP} (h:S2 x.1 x.2.1 x.2.2.1 x.2.2.2.1 x.2.2.2.2=S2 y.1 y.2.1 y.2.2.1 y.2.2.2.1 y.2.2.2.2):x=y:=by
 simp only[S2,T.ref.injEq,List.cons.injEq,T.mp.injEq,and_true] at h
 obtain ⟨h0,h1,h2,h3,h4⟩:=h
 exact Prod.ext (Sy.dV aL _ _ h0) (Prod.ext (D3 h1) (Prod.ext (D3 h2) (Prod.ext (D3 h3) (D3 h4))))
theorem AJP (x y:aF×MP×MP×MP×MP) (h:BR x.1 x.2.1 x.2.2.1 x.2.2.2.1 x.2.2.2.2=BR y.1 y.2.1 y.2.2.1 y.2.2.2.1 y.2.2.2.2):x=y:=qJ (List.cons.inj h).1
def dP (d:aF):Bool:=decide (64<d.2.1.length)||decide (256<d.2.2.1.length)||decide (256<d.2.2.2.1.length)||decide (64<d.2.2.2.2.1.length)||decide (256<d.2.2.2.2.2.length)
def iA (d:aF):Bool:=lL (ids d.2.1)&&lL (ids d.2.2.1)&&lL (ids d.2.2.2.1)&&lL (ids d.2.2.2.2.1)&&CE d.2.2.2.2.2
def AMA (l1 l2 l3 l4:List ByteArray):Bool:=(l2.any (l7 l1))||(l3.any fun x=>l7 l1 x||l7 l2 x)||(l4.any fun x=>l7 l1 x||l7 l2 x||l7 l3 x)
def A3 (d:aF):Bool:=AMA (ids d.2.1) (ids d.2.2.1) (ids d.2.2.2.1) (ids d.2.2.2.2.1)
def dZ (d:aF):Int:=if dP d=true then 4 else if iA d=false then 11 else if A3 d=true then 7 else 0
def A8C (x:aF×MP×MP×MP×MP):Bool:=decide (x.2.1=hH (ids x.1.2.1))&&decide (x.2.2.1=hH (ids x.1.2.2.1))&&decide (x.2.2.2.1=hH (ids x.1.2.2.2.1))&&decide (x.2.2.2.2=hH (ids x.1.2.2.2.2.1)) &&
 (decide (x.1.2.1.length≤140737488355328)&&decide (x.1.2.2.1.length≤140737488355328)&&decide (x.1.2.2.2.1.length≤140737488355328)&&decide (x.1.2.2.2.2.1.length≤140737488355328)&&decide (x.1.2.2.2.2.2.length≤140737488355328))
structure mE (d:aF):Prop where
 n:d.2.1.length≤140737488355328
 p:d.2.2.1.length≤140737488355328
 s:d.2.2.2.1.length≤140737488355328
 k:d.2.2.2.2.1.length≤140737488355328
 r:d.2.2.2.2.2.length≤140737488355328
theorem RU {x:aF×MP×MP×MP×MP}:A8C x=true↔x=(x.1,hH (ids x.1.2.1),hH (ids x.1.2.2.1),hH (ids x.1.2.2.2.1),hH (ids x.1.2.2.2.2.1))∧mE x.1:=by
 obtain ⟨d,a,b,c,e⟩:=x
 simp only[A8C,Bool.and_eq_true,decide_eq_true_eq,Prod.mk.injEq,true_and]
 constructor
 ·rintro ⟨⟨⟨⟨rfl,rfl⟩,rfl⟩,rfl⟩,⟨⟨⟨h1,h2⟩,h3⟩,h4⟩,h5⟩
  exact ⟨⟨rfl,rfl,rfl,rfl⟩,h1,h2,h3,h4,h5⟩
 ·rintro ⟨⟨rfl,rfl,rfl,rfl⟩,h1,h2,h3,h4,h5⟩
  exact ⟨⟨⟨⟨rfl,rfl⟩,rfl⟩,rfl⟩,⟨⟨⟨h1,h2⟩,h3⟩,h4⟩,h5⟩
def wL (x:aF×MP×MP×MP×MP) (t:T):Option T:=match A8C x with
 | true=>some t
 | false=>none
theorem nT {x:aF×MP×MP×MP×MP} {t r:T} (h:wL x t=some r):x=(x.1,hH (ids x.1.2.1),hH (ids x.1.2.2.1),hH (ids x.1.2.2.2.1),hH (ids x.1.2.2.2.2.1))∧mE x.1∧r=t:=by
 unfold wL at h;split at h
 ·rename_i hc
  cases h
  exact ⟨(RU.1 hc).1,(RU.1 hc).2,rfl⟩
 ·cases h
theorem nU {d:aF} (h:mE d) (t:T):wL (d,hH (ids d.2.1),hH (ids d.2.2.1),hH (ids d.2.2.2.1),hH (ids d.2.2.2.2.1)) t=some t:=by
 unfold wL;rw[RU.2 ⟨rfl,h⟩]
def ABQ (x:aF×MP×MP×MP×MP):Option T:=wL x (T.v (Value.int .i64 (dZ x.1)))
noncomputable def IY:List T→Option (T):=gA (fun (x:aF×(List (ByteArray×Int))×(List (ByteArray×Int))×(List (ByteArray×Int))×List (ByteArray×Int))=>BR x.1 x.2.1 x.2.2.1 x.2.2.2.1 x.2.2.2.2) ABQ
theorem AT3 (a0:aF) (m1:List (ByteArray×Int)) (m2:List (ByteArray×Int)) (m3:List (ByteArray×Int)) (m4:List (ByteArray×Int)):IY (BR a0 m1 m2 m3 m4)=ABQ (a0,m1,m2,m3,m4):=lQ (A:=(fun (x:aF×(List (ByteArray×Int))×(List (ByteArray×Int))×(List (ByteArray×Int))×List (ByteArray×Int))=>BR x.1 x.2.1 x.2.2.1 x.2.2.2.1 x.2.2.2.2)) AJP (a0,m1,m2,m3,m4)
theorem A4H (h:∀ (a0:aF) (m1:List (ByteArray×Int)) (m2:List (ByteArray×Int)) (m3:List (ByteArray×Int)) (m4:List (ByteArray×Int)) (r:T),ABQ (a0,m1,m2,m3,m4)=some r→(∀ t∈BR a0 m1 m2 m3 m4,Bd t)→ALC a0 m1 m2 m3 m4 (fun y=>y=r)):aK Tryz.prog 24 IY :=
 fO (E:=AJT) (Hs:=AXX) AW1 aW aX (aM rfl) 8 ⟨_,_,Tryz.func24,rfl⟩ fun x r h1 h2=>by
  rw[AR9]
  exact h x.1 x.2.1 x.2.2.1 x.2.2.2.1 x.2.2.2.2 r h1 h2
theorem MD {A:List T} {b:Bool} (h:sT A=some (T.v (.bool b))) (K:Bool→Prop) (hk:K b):aG [(false,Sy.bool)] (sT A) K:=aD (s:=[(false,Sy.bool)]) (y:=b) h hk
theorem A3M:aK Tryz.prog 24 IY:=A4H fun d m1 m2 m3 m4 r h hb=>by
 obtain ⟨hx,hs,rfl⟩:=nT h
 simp only[Prod.mk.injEq,true_and] at hx
 obtain ⟨rfl,rfl,rfl,rfl⟩:=hx
 clear h
 have is:∀ {n:Int},dZ d=n→T.v (.int .i64 n)=T.v (.int .i64 (dZ d)):=fun h=>by rw[h]
 have long:dP d=true→dZ d=4:=fun h=>by unfold dZ;rw[if_pos h]
 unfold ALC
 refine bL (fun h=>is (long (by rw[List.length_map] at h;simp only[dP,Bool.or_eq_true,decide_eq_true_eq];omega))) fun l1=>?_
 refine bL (fun h=>is (long (by rw[List.length_map] at h;simp only[dP,Bool.or_eq_true,decide_eq_true_eq];omega))) fun l2=>?_
 refine bL (fun h=>is (long (by rw[List.length_map] at h;simp only[dP,Bool.or_eq_true,decide_eq_true_eq];omega))) fun l3=>?_
 refine bL (fun h=>is (long (by rw[List.length_map] at h;simp only[dP,Bool.or_eq_true,decide_eq_true_eq];omega))) fun l4=>?_
 refine bL (fun h=>is (long (by rw[List.length_map] at h;simp only[dP,Bool.or_eq_true,decide_eq_true_eq];omega))) fun l5=>?_
 rw[List.length_map] at l1 l2 l3 l4 l5
 have notLong:dP d=false:=by simp only[dP,Bool.or_eq_false_iff,decide_eq_false_iff_not];omega
 refine MD (by rw[List.length_map];exact A7B hs.n) _ ?_
 have step:∀ {b c:Bool} {A:List T} {Z:Bool×PUnit→Prop},sT A=some (T.v (.bool c))→Z (b&&c,())→rD (Bool×PUnit) (fun (X:Bool×PUnit→Prop)=>aB b (aG [(false,Sy.bool)] (sT A) fun (y2:Bool)=>X (y2,())) (X (false,()))) Z:=fun {b c A Z} hA hZ=>by
  rw[zH]
  cases b with
  | true=>rw[eU];exact MD hA _ hZ
  | false=>rw[fV];exact hZ
 refine step (by rw[List.length_map];exact A7C hs.p) ?_
 refine step (by rw[List.length_map];exact A7D hs.s) ?_
 refine step (by rw[List.length_map];exact A7E hs.k) ?_
 refine aZ d.2.2.2.2.2.length (fun k s=>∃ b,s=(b,((k+1:Nat):Int),())∧(b&&CE (d.2.2.2.2.2.drop k))=iA d) ⟨_,rfl,by rw[List.drop_zero];rfl⟩ ?_
 rintro X k s hk ⟨b,rfl,he⟩ hX
 dsimp only
 have hr:=hs.r
 have hw:IntKind.i64.wrap (((k+1:Nat):Int)+1)=((k+1+1:Nat):Int):=aS _ (by omega) (by omega)
 have hw1:IntKind.i64.wrap (((k+1:Nat):Int)-1)=((k:Nat):Int):=by rw[aS _ (by omega) (by omega)];omega
 refine bL (fun hlt=>?_) fun hge=>?_
 ·have hlt:k+1<d.2.2.2.2.2.length:=by rw[List.length_map] at hlt;omega
  rw[hw1,aT (r:=aQ) (show k<d.2.2.2.2.2.length by omega),aT (r:=aQ) hlt,hw]
  rw[U0 hlt] at he
  have go:∀ c,(b&&ltN d.2.2.2.2.2[k] d.2.2.2.2.2[k+1])=c→X (c,((k+1+1:Nat):Int),()):=fun c hc=>hX _ (by omega) ⟨c,rfl,by rw[←hc,Bool.and_assoc];exact he⟩
  generalize d.2.2.2.2.2[k]=u at go
  generalize d.2.2.2.2.2[k+1]=v at go
  cases b with
  | false=>rw[fV];exact go _ rfl
  | true =>
   rw[eU]
   simp only[Bool.true_and,ltN] at go
   refine bL (fun h=>go _ (by simp[h])) fun h1=>?_
   refine bL (fun h2=>?_) fun h2=>go _ (by simp[h1,h2])
   refine rS (fun h3=>go _ (by simp[h2,h3])) fun h3=>?_
   refine bL (fun h4=>go _ (by rw[decide_eq_false h1,decide_eq_true h2,h3,decide_eq_true h4];rfl)) fun h4=>go _ (by rw[decide_eq_false h1,decide_eq_true h2,h3,decide_eq_false h4];rfl)
 ·rw[List.length_map] at hge
  rw[AFQ (by omega),Bool.and_true] at he
  refine dM (fun h=>is (by unfold dZ;rw[notLong,if_neg (by simp),←he,h];rfl)) fun h=>?_
  have dup:A3 d=true→T.v (.int .i64 7)=T.v (.int .i64 (dZ d)):=fun h7=>is (by unfold dZ;rw[notLong,if_neg (by simp),←he,h,if_neg (by simp),if_pos h7])
  have dup':(∃ i,∃ h:i<(hH (ids d.2.2.1)).length,(hH (ids d.2.2.1))[i].1∈ids d.2.1)∨(∃ i,∃ h:i<(hH (ids d.2.2.2.1)).length,(hH (ids d.2.2.2.1))[i].1∈ids d.2.1∨(hH (ids d.2.2.2.1))[i].1∈ids d.2.2.1)∨(∃ i,∃ h:i<(hH (ids d.2.2.2.2.1)).length,((hH (ids d.2.2.2.2.1))[i].1∈ids d.2.1∨(hH (ids d.2.2.2.2.1))[i].1∈ids d.2.2.1)∨(hH (ids d.2.2.2.2.1))[i].1∈ids d.2.2.2.1)→A3 d=true:=by
   intro h
   simp only[A3,AMA,Bool.or_eq_true,List.any_eq_true,iK]
   rcases h with ⟨i,hi,h⟩|⟨i,hi,h⟩|⟨i,hi,h⟩
   ·exact .inl (.inl ⟨_,kE.1 ⟨i,hi,rfl⟩,h⟩)
   ·exact .inl (.inr ⟨_,kE.1 ⟨i,hi,rfl⟩,h⟩)
   ·exact .inr ⟨_,kE.1 ⟨i,hi,rfl⟩,h⟩
  have m1:=fun id=>(@kE (ids d.2.1) id)
  refine A27 (m:=hH (ids d.2.1)) (es:=[]) (R7:=T.v (.int .i64 7)=T.v (.int .i64 (dZ d))) Seen.nil (fun h=>by obtain ⟨_,_,h⟩:=h;exact h.elim) fun _=>?_
  refine A20 (m:=hH (ids d.2.1)) (es:=[]) Seen.nil fun e1 rs1 s1=>?_
  have s1:=s1.congr (S':=fun id=>id∈ids d.2.1) fun id=>by rw[kE];simp
  refine A27 (m:=hH (ids d.2.2.1)) s1 (fun h=>dup (dup' (.inl h))) fun n1=>?_
  refine A20 (m:=hH (ids d.2.2.1)) s1 fun e2 rs2 s2=>?_
  have s2:=s2.congr (S':=fun id=>id∈ids d.2.1∨id∈ids d.2.2.1) fun id=>by rw[kE]
  refine A27 (m:=hH (ids d.2.2.2.1)) s2 (fun h=>dup (dup' (.inr (.inl h)))) fun n2=>?_
  refine A20 (m:=hH (ids d.2.2.2.1)) s2 fun e3 rs3 s3=>?_
  have s3:=s3.congr (S':=fun id=>(id∈ids d.2.1∨id∈ids d.2.2.1)∨id∈ids d.2.2.2.1) fun id=>by rw[kE]
  refine A27 (m:=hH (ids d.2.2.2.2.1)) s3 (fun h=>dup (dup' (.inr (.inr h)))) fun n3=>?_
  refine A20 (m:=hH (ids d.2.2.2.2.1)) s3 fun e4 rs4 s4=>is ?_
  have nd:A3 d=false:=by
   rw[Bool.eq_false_iff]
   intro h
   simp only[A3,AMA,Bool.or_eq_true,List.any_eq_true,iK] at h
   rcases h with (⟨x,hx,h⟩|⟨x,hx,h⟩)|⟨x,hx,h⟩
   ·obtain ⟨i,hi,rfl⟩:=kE.2 hx;exact n1 i hi h
   ·obtain ⟨i,hi,rfl⟩:=kE.2 hx;exact n2 i hi h
   ·obtain ⟨i,hi,rfl⟩:=kE.2 hx;exact n3 i hi h
  unfold dZ;rw[notLong,if_neg (by simp),←he,h,if_neg (by simp),nd,if_neg (by simp)]
end Go.Pv
namespace Go.Pv
open Go Go.Proofs
def A7F:FuncId→Bool:=fun f=>[17,38,37,23,67].contains f
def A3Y:Env:=Env.of [(98,.pure IW),(1000000000+23,.mark),(3000000000+17,.mark)]
def A9J:List T→Option T:=fun args=>match args with | []=>some (.v (.bool true))|_=>none
def dB:List T→Option T:=A9J
theorem AMG:aK Tryz.prog 8 dB :=
 ATP (by kernel_rfl) (by kernel_rfl) 400 A7F (B:=A3Y) (aH.cons (x:=.pure IW) QS (aH.cons (x:=.mark) trivial (aH.cons (x:=.mark) trivial (aH.nil _)))) 40 (by kernel_rfl)
end Go.Pv
namespace Go.Pv
open Go Go.Proofs
def A9K:List T→Option T:=fun _=>none
theorem aK.nil {P:Program} {f:FuncId} (h:∃ fn,P.funcs[f]? = some fn∧(fn.name == "runtime.NumGoroutine")=false∧fn.body.isNone=false):aK P f A9K:=⟨h,fun _ _ _ _ _ _ _ _ h=>by cases h⟩
theorem AIH (es:MP):qL (bI es)=List.map (cE Sy.str false (Sy.int IntKind.i64)) es:=by
 unfold qL bI
 rw[List.map_map];rfl
theorem VP {α:Type} (id:ByteArray):∀ (l:List (ByteArray×α)) (i:Nat) (es:MP),(∃ v,iT es id=some v∧iT (I4 (ids l) i es) id=some v)∨(iT es id=none∧iT (I4 (ids l) i es) id=none∧l.find? (fun s=>decide (s.1=id))=none) ∨
  (iT es id=none∧∃ k,∃ h:k<l.length,iT (I4 (ids l) i es) id=some ((i+k:Nat):Int)∧l.find? (fun s=>decide (s.1=id))=some l[k])
 | [],i,es=>by
  cases h:iT es id with
  | none=>exact .inr (.inl ⟨rfl,by simpa [ids,I4] using h,rfl⟩)
  | some v=>exact .inl ⟨v,rfl,by simpa [ids,I4] using h⟩
 | a::l,i,es=>by
  have hs:ids (a::l)=a.1::ids l:=rfl
  rw[hs]
  simp only[I4]
  have ih:=VP id l (i+1) (match iT es a.1 with|none=>wS es a.1 (i:Int)|some _=>es)
  by_cases ha:a.1=id
  ·subst ha
   cases hc:iT es a.1 with
   | some v =>
    simp only[hc] at ih ⊢
    rcases ih with ⟨v',h1,h2⟩|⟨h1,_⟩|⟨h1,_⟩
    ·exact .inl ⟨v',h1,h2⟩
    ·cases h1
    ·cases h1
   | none =>
    simp only[hc] at ih ⊢
    have hg:iT (wS es a.1 (i:Int)) a.1=some (i:Int):=by rw[xM];simp
    rw[hg] at ih
    rcases ih with ⟨v',h1,h2⟩|⟨h1,_⟩|⟨h1,_⟩
    ·cases h1
     exact .inr (.inr ⟨by first|rfl|trivial,0,by simp,by simpa using h2,by simp⟩)
    ·cases h1
    ·cases h1
  ·have hg:iT (match iT es a.1 with|none=>wS es a.1 (i:Int)|some _=>es) id=iT es id:=by
    cases hc:iT es a.1 with
    | none=>simp only[xM,ha,if_false]
    | some v=>rfl
   rw[hg] at ih
   rcases ih with ⟨v',h1,h2⟩|⟨h1,h2,h3⟩|⟨h1,k,hk,h2,h3⟩
   ·exact .inl ⟨v',h1,h2⟩
   ·exact .inr (.inl ⟨h1,h2,by rw[List.find?_cons_of_neg (by simpa using ha)];exact h3⟩)
   ·exact .inr (.inr ⟨h1,k+1,by simpa using hk,h2.trans (by congr 2;omega),by rw[List.find?_cons_of_neg (by simpa using ha)];simpa using h3⟩)
theorem xN {α:Type} (id:ByteArray) (l:List (ByteArray×α)):(iT (hH (ids l)) id=none∧l.find? (fun s=>decide (s.1=id))=none)∨(∃ k,∃ h:k<l.length,iT (hH (ids l)) id=some (k:Int)∧l.find? (fun s=>decide (s.1=id))=some l[k]):=by
 rcases VP id l 0 [] with ⟨v,h,_⟩|⟨_,h1,h2⟩|⟨_,k,hk,h1,h2⟩
 ·cases h
 ·exact .inl ⟨h1,h2⟩
 ·exact .inr ⟨k,hk,h1.trans (by rw[Nat.zero_add]),h2⟩
theorem ixK {α:Type} {id:ByteArray} {l:List (ByteArray×α)} {A:Prop} {B:Nat→Int→Prop} (hA:l.find? (fun s=>decide (s.1=id))=none→A) (hB:∀ i k (h:k<l.length),l.find? (fun s=>decide (s.1=id))=some l[k]→B i (k:Int)) :
  gK TypeDesc.string (Value.string id) (qL (bI (hH (ids l)))) false (Sy.int IntKind.i64) A B:=by
 rw[AIH]
 refine D8 (r:=.int .i64) (fun h=>hA ?_) fun i v h=>?_
 ·rcases xN id l with ⟨_,h2⟩|⟨k,hk,h1,_⟩
  ·exact h2
  ·rw[h] at h1;cases h1
 ·rcases xN id l with ⟨h1,_⟩|⟨k,hk,h1,h2⟩
  ·rw[h] at h1;cases h1
  ·rw[h] at h1;cases h1;exact hB i k hk h2
def lI (a0:aF) (m1:List (ByteArray×Int)) (m2:List (ByteArray×Int)) (m3:List (ByteArray×Int)) (m4:List (ByteArray×Int)) (a5:ByteArray):List T:=[S2 a0 m1 m2 m3 m4,T.v (.string a5)]
noncomputable def N3:Env:=Env.of []
def AFC:FuncId→Hint:=fun f=>match f == 38 with|true=>⟨fun r=>match r == 3 with|true=>.inv [.val 1 false .str,.own 6 1 .str,.val 9 false (.int .i64)]|false=>.none,fun _ _=>none,fun _=>none⟩|false=>aV
theorem AK2:aH Tryz.prog N3:=aH.nil _
def PB (a0:aF) (m1:List (ByteArray×Int)) (m2:List (ByteArray×Int)) (m3:List (ByteArray×Int)) (m4:List (ByteArray×Int)) (a5:ByteArray) (R:T→Prop):Prop :=
 bA (ByteArray×List ByteArray×Int×PUnit)
 (fun (X0:ByteArray×List ByteArray×Int×PUnit→Prop) (s1:ByteArray×List ByteArray×Int×PUnit) =>
 aB (decide (s1.2.2.1<65))
 (gK TypeDesc.string (Value.string s1.1) (qL (bI m1)) false
 (Sy.int IntKind.i64) (R (T.cR [T.sl false [],T.v (.bool false)]))
 fun (i2:Nat) (y3:Int) =>
 aO bE (List.map bE.enc a0.2.1) y3 fun (y4:gT) =>
 bP
 (decide (((List.map Sy.str.enc s1.2.1).length+1)*16≤140737488355328) &&
 decide ((List.map Sy.str.enc s1.2.1).length+1≤140737488355328))
 (aB (decide (y4.2.1=1))
 (R
 (T.cR
 [T.sl false (List.map Sy.str.enc s1.2.1++[[T.v (.string s1.1)]]),
 T.v (.bool true)]))
 (b6 Sy.str (List.map Sy.str.enc s1.2.1++[[T.v (.string s1.1)]])
 fun (y5:List ByteArray)=>X0 (y4.2.2,y5,IntKind.i64.wrap (s1.2.2.1+1),()))))
 (R (T.cR [T.sl false [],T.v (.bool false)])))
 (a5,[],0,())
theorem AD4 ( a0 m1 m2 m3 m4 a5 R):bC aY Tryz.prog N3 AFC 8 67 (lI a0 m1 m2 m3 m4 a5) R=PB a0 m1 m2 m3 m4 a5 R:=by kernel_rfl
theorem DS (x y:aF×MP×MP×MP×MP×ByteArray) (h:lI x.1 x.2.1 x.2.2.1 x.2.2.2.1 x.2.2.2.2.1 x.2.2.2.2.2=lI y.1 y.2.1 y.2.2.1 y.2.2.2.1 y.2.2.2.2.1 y.2.2.2.2.2):x=y:=by
 obtain ⟨h1,h2⟩:=List.cons.inj h
 have:=qJ (x:=(x.1,x.2.1,x.2.2.1,x.2.2.2.1,x.2.2.2.2.1)) (y:=(y.1,y.2.1,y.2.2.1,y.2.2.2.1,y.2.2.2.2.1)) h1
 simp only[List.cons.injEq,T.v.injEq,Value.string.injEq,and_true] at h2
 simp only[Prod.mk.injEq] at this
 obtain ⟨e1,e2,e3,e4,e5⟩:=this
 exact Prod.ext e1 (Prod.ext e2 (Prod.ext e3 (Prod.ext e4 (Prod.ext e5 h2))))
def KC (x:aF×MP×MP×MP×MP×ByteArray):Option T:=wL (x.1,x.2.1,x.2.2.1,x.2.2.2.1,x.2.2.2.2.1) (Sh.enc [(false,.li .str),(false,.bool)] (up x.1 x.2.2.2.2.2))
noncomputable def iI:List T→Option (T):=gA (fun (x:aF×(List (ByteArray×Int))×(List (ByteArray×Int))×(List (ByteArray×Int))×(List (ByteArray×Int))×ByteArray)=>lI x.1 x.2.1 x.2.2.1 x.2.2.2.1 x.2.2.2.2.1 x.2.2.2.2.2) KC
theorem AH1 (a0:aF) (m1:List (ByteArray×Int)) (m2:List (ByteArray×Int)) (m3:List (ByteArray×Int)) (m4:List (ByteArray×Int)) (a5:ByteArray):iI (lI a0 m1 m2 m3 m4 a5)=KC (a0,m1,m2,m3,m4,a5):=lQ (A:=(fun (x:aF×(List (ByteArray×Int))×(List (ByteArray×Int))×(List (ByteArray×Int))×(List (ByteArray×Int))×ByteArray)=>lI x.1 x.2.1 x.2.2.1 x.2.2.2.1 x.2.2.2.2.1 x.2.2.2.2.2)) DS (a0,m1,m2,m3,m4,a5)
theorem AVU (h:∀ (a0:aF) (m1:List (ByteArray×Int)) (m2:List (ByteArray×Int)) (m3:List (ByteArray×Int)) (m4:List (ByteArray×Int)) (a5:ByteArray) (r:T),KC (a0,m1,m2,m3,m4,a5)=some r→(∀ t∈lI a0 m1 m2 m3 m4 a5,Bd t)→PB a0 m1 m2 m3 m4 a5 (fun y=>y=r)):aK Tryz.prog 67 iI :=
 fO (E:=N3) (Hs:=AFC) AK2 aW aX (aM rfl) 8 ⟨_,_,Tryz.func67,rfl⟩ fun x r h1 h2=>by
  rw[AD4]
  exact h x.1 x.2.1 x.2.2.1 x.2.2.2.1 x.2.2.2.2.1 x.2.2.2.2.2 r h1 h2
theorem VH:aK Tryz.prog 67 iI:=AVU fun d m1 m2 m3 m4 id0 r h hb=>by
 obtain ⟨hx,hs,rfl⟩:=nT h
 simp only[Prod.mk.injEq,true_and] at hx
 obtain ⟨rfl,rfl,rfl,rfl⟩:=hx
 clear h
 unfold PB
 refine aZ 65 (fun k s=>∃ id' l',s=(id',l',(k:Int),())∧l'.length=k∧upF d (65-k) id' l'=up d id0) ⟨id0,[],rfl,rfl,rfl⟩ ?_
 rintro X k s hk ⟨id',l',rfl,hl,hu⟩ hX
 dsimp only
 have stop:up d id0=([],false)→T.cR [T.sl false [],T.v (.bool false)]=Sh.enc [(false,.li .str),(false,.bool)] (up d id0):=fun h=>by rw[h];rfl
 refine bL (fun hlt=>?_) fun hge=>stop ?_
 ·have hlt:k<65:=by omega
  obtain ⟨m,hm⟩:∃ m,65-k=m+1:=⟨64-k,by omega⟩
  rw[hm] at hu
  simp only[upF] at hu
  refine ixK (fun hn=>stop ?_) fun i j hj hn=>?_
  ·have hn:cB d id'=none:=hn
   rw[hn] at hu;exact hu.symm
  ·have hn:cB d id'=some d.2.1[j]:=hn
   simp only[hn] at hu
   rw[aT (r:=bE) hj,CD (by omega),D0]
   refine bL (fun h1=>?_) fun h1=>?_
   ·rw[if_pos h1] at hu
    rw[←hu,AF5];rfl
   ·rw[if_neg h1] at hu
    exact hX _ hlt ⟨_,_,by rw[show IntKind.i64.wrap ((k:Int)+1)=((k+1:Nat):Int) from aS _ (by omega) (by omega)],by simp[hl],by rw[←hu];congr 1;omega⟩
 ·have:65-k=0:=by omega
  rw[this] at hu
  exact hu.symm
def lC (d:aF) (n:gT):Int:=if gX n.1=false then 6 else if ¬ n.2.1=1∧¬ n.2.1=2 then 10 else if n.2.1=1∧¬ n.2.2 = { data:=#[] } then 2 else if n.2.1=2∧(cB d n.2.2).isNone=true then 8 else 0
def RN (d:aF):Bool:=d.2.1.any fun n=>!(up d n.1).2
def BA (d:aF):Bool:=d.2.1.any fun n=>decide (8<(up d n.1).1.length)
def dF (d:aF):Int:=if bD (lC d) d.2.1=0 then (if RN d=true then 20 else if BA d=true then 13 else 0) else bD (lC d) d.2.1
def pB (a0:aF) (m1:List (ByteArray×Int)) (m2:List (ByteArray×Int)) (m3:List (ByteArray×Int)) (m4:List (ByteArray×Int)):List T:=[S2 a0 m1 m2 m3 m4]
noncomputable def M1:Env:=Env.of [(66,.pure dQ),(67,.pure iI)]
def AEC:FuncId→Hint:=fun f=>match f == 25 with|true=>⟨fun r=>match r == 2 with|true=>.inv [.val 20 false (.int .i64)]|false=>match r == 16 with|true=>.inv [.val 7 false .bool,.val 74 false (.int .i64)]|false=>.none,fun _ _=>none,fun _=>none⟩|false=>aV
theorem AJ2:aH Tryz.prog M1:=aH.cons (x:=.pure dQ) L2 (aH.cons (x:=.pure iI) VH (aH.nil _))
def OA (a0:aF) (m1:List (ByteArray×Int)) (m2:List (ByteArray×Int)) (m3:List (ByteArray×Int)) (m4:List (ByteArray×Int)) (R:T→Prop):Prop :=
 bA (Int×PUnit)
 (fun (X0:Int×PUnit→Prop) (s1:Int×PUnit) =>
 aB (decide (s1.1<(↑(List.map bE.enc a0.2.1).length:Int)))
 (aO bE (List.map bE.enc a0.2.1) s1.1 fun (y2:gT) =>
 gK TypeDesc.string (Value.string y2.2.2) (qL (bI m1)) false
 (Sy.int IntKind.i64)
 (aG [(false,Sy.bool)] (dQ [T.v (.string y2.1)]) fun (y6:Bool) =>
 aB (!y6) (R (T.v (.int .i64 6)))
 (aB (!decide (y2.2.1=1))
 (aB (!decide (y2.2.1=2)) (R (T.v (.int .i64 10)))
 (aB (decide (y2.2.1=1))
 (aB (!decide (y2.2.2 = { data:=#[] })) (R (T.v (.int .i64 2)))
 (aB (decide (y2.2.1=2)) (R (T.v (.int .i64 8)))
 (X0 (IntKind.i64.wrap (s1.1+1),()))))
 (aB (decide (y2.2.1=2)) (R (T.v (.int .i64 8)))
 (X0 (IntKind.i64.wrap (s1.1+1),())))))
 (aB (decide (y2.2.1=1))
 (aB (!decide (y2.2.2 = { data:=#[] })) (R (T.v (.int .i64 2)))
 (aB (decide (y2.2.1=2)) (R (T.v (.int .i64 8)))
 (X0 (IntKind.i64.wrap (s1.1+1),()))))
 (aB (decide (y2.2.1=2)) (R (T.v (.int .i64 8)))
 (X0 (IntKind.i64.wrap (s1.1+1),()))))))
 fun (i3:Nat) (y4:Int) =>
 aG [(false,Sy.bool)] (dQ [T.v (.string y2.1)]) fun (y5:Bool) =>
 aB (!y5) (R (T.v (.int .i64 6)))
 (aB (!decide (y2.2.1=1))
 (aB (!decide (y2.2.1=2)) (R (T.v (.int .i64 10)))
 (aB (decide (y2.2.1=1))
 (aB (!decide (y2.2.2 = { data:=#[] })) (R (T.v (.int .i64 2)))
 (aB (decide (y2.2.1=2)) (X0 (IntKind.i64.wrap (s1.1+1),()))
 (X0 (IntKind.i64.wrap (s1.1+1),()))))
 (aB (decide (y2.2.1=2)) (X0 (IntKind.i64.wrap (s1.1+1),()))
 (X0 (IntKind.i64.wrap (s1.1+1),())))))
 (aB (decide (y2.2.1=1))
 (aB (!decide (y2.2.2 = { data:=#[] })) (R (T.v (.int .i64 2)))
 (aB (decide (y2.2.1=2)) (X0 (IntKind.i64.wrap (s1.1+1),()))
 (X0 (IntKind.i64.wrap (s1.1+1),()))))
 (aB (decide (y2.2.1=2)) (X0 (IntKind.i64.wrap (s1.1+1),()))
 (X0 (IntKind.i64.wrap (s1.1+1),()))))))
 (bA (Bool×Int×PUnit)
 (fun (X7:Bool×Int×PUnit→Prop) (s8:Bool×Int×PUnit) =>
 aB (decide (s8.2.1<(↑(List.map bE.enc a0.2.1).length:Int)))
 (aO bE (List.map bE.enc a0.2.1) s8.2.1 fun (y9:gT) =>
 aG [(false,Sy.str.li),(false,Sy.bool)]
 (iI
 [T.ref
 [T.ref
 [T.v (.string a0.1),T.sl false (List.map bE.enc a0.2.1),
 T.sl false (List.map aU.enc a0.2.2.1),
 T.sl false (List.map a6.enc a0.2.2.2.1),
 T.sl false (List.map aP.enc a0.2.2.2.2.1),
 T.sl false (List.map aQ.enc a0.2.2.2.2.2)],
 T.mp (bI m1),T.mp (bI m2),T.mp (bI m3),
 T.mp (bI m4)],
 T.v (.string y9.1)])
 fun (y10:List ByteArray×Bool) =>
 aB (!y10.2) (R (T.v (.int .i64 20)))
 (aB s8.1 (X7 (true,IntKind.i64.wrap (s8.2.1+1),()))
 (X7
 (decide (8<(↑(List.map Sy.str.enc y10.1).length:Int)),
 IntKind.i64.wrap (s8.2.1+1),()))))
 (aB s8.1 (R (T.v (.int .i64 13)))
 (R (T.v (.int .i64 0)))))
 (false,0,())))
 (0,())
theorem AC4 ( a0 m1 m2 m3 m4 R):bC aY Tryz.prog M1 AEC 8 25 (pB a0 m1 m2 m3 m4) R=OA a0 m1 m2 m3 m4 R:=by kernel_rfl
theorem WZ (x y:aF×MP×MP×MP×MP) (h:pB x.1 x.2.1 x.2.2.1 x.2.2.2.1 x.2.2.2.2=pB y.1 y.2.1 y.2.2.1 y.2.2.2.1 y.2.2.2.2):x=y:=qJ (List.cons.inj h).1
def JM (x:aF×MP×MP×MP×MP):Option T:=wL x (T.v (Value.int .i64 (dF x.1)))
noncomputable def sK:List T→Option (T):=gA (fun (x:aF×(List (ByteArray×Int))×(List (ByteArray×Int))×(List (ByteArray×Int))×List (ByteArray×Int))=>pB x.1 x.2.1 x.2.2.1 x.2.2.2.1 x.2.2.2.2) JM
theorem AGP (a0:aF) (m1:List (ByteArray×Int)) (m2:List (ByteArray×Int)) (m3:List (ByteArray×Int)) (m4:List (ByteArray×Int)):sK (pB a0 m1 m2 m3 m4)=JM (a0,m1,m2,m3,m4):=lQ (A:=(fun (x:aF×(List (ByteArray×Int))×(List (ByteArray×Int))×(List (ByteArray×Int))×List (ByteArray×Int))=>pB x.1 x.2.1 x.2.2.1 x.2.2.2.1 x.2.2.2.2)) WZ (a0,m1,m2,m3,m4)
theorem AUU (h:∀ (a0:aF) (m1:List (ByteArray×Int)) (m2:List (ByteArray×Int)) (m3:List (ByteArray×Int)) (m4:List (ByteArray×Int)) (r:T),JM (a0,m1,m2,m3,m4)=some r→(∀ t∈pB a0 m1 m2 m3 m4,Bd t)→OA a0 m1 m2 m3 m4 (fun y=>y=r)):aK Tryz.prog 25 sK :=
 fO (E:=M1) (Hs:=AEC) AJ2 aW aX (aM rfl) 8 ⟨_,_,Tryz.func25,rfl⟩ fun x r h1 h2=>by
  rw[AC4]
  exact h x.1 x.2.1 x.2.2.1 x.2.2.2.1 x.2.2.2.2 r h1 h2
theorem K4 {d:aF} (hs:mE d) (id:ByteArray):iI (lI d (hH (ids d.2.1)) (hH (ids d.2.2.1)) (hH (ids d.2.2.2.1)) (hH (ids d.2.2.2.2.1)) id)=some (Sh.enc [(false,.li .str),(false,.bool)] (up d id)):=by
 rw[AH1];exact nU hs _
theorem mR (s:ByteArray) (K:Bool→Prop):aG [(false,Sy.bool)] (dQ [T.v (.string s)]) K=K (gX s):=by
 rw[show dQ [T.v (.string s)]=MT s from AT4]
 exact AI1 _ K
theorem ATB:aK Tryz.prog 25 sK:=AUU fun d m1 m2 m3 m4 r h hb=>by
 obtain ⟨hx,hs,rfl⟩:=nT h
 simp only[Prod.mk.injEq,true_and] at hx
 obtain ⟨rfl,rfl,rfl,rfl⟩:=hx
 clear h
 have is:∀ {n:Int},dF d=n→T.v (.int .i64 n)=T.v (.int .i64 (dF d)):=fun h=>by rw[h]
 unfold OA
 refine fK (r:=bE) (lC d) hs.n (fun X s y hy hok hbad=>?_) fun h0=>?_
 ·have bad:∀ {n:Int},n≠0→lC d y=n→T.v (.int .i64 n)=T.v (.int .i64 (dF d)):=fun hn h=>is (by
   have:=hbad (by rw[h];exact hn)
   unfold dF
   rw[if_neg (by rw[this,h];exact hn),this,h])
  have tail:∀ {Z2 Z:Prop},gX y.1=true→(y.2.1=2→Z2)→(lC d y=0→Z) →
   aB (!decide (y.2.1=1))
        (aB (!decide (y.2.1=2)) (T.v (.int .i64 10)=T.v (.int .i64 (dF d)))
         (aB (decide (y.2.1=1))
          (aB (!decide (y.2.2 = { data:=#[] })) (T.v (.int .i64 2)=T.v (.int .i64 (dF d)))
           (aB (decide (y.2.1=2)) Z2 Z))
          (aB (decide (y.2.1=2)) Z2 Z)))
        (aB (decide (y.2.1=1))
         (aB (!decide (y.2.2 = { data:=#[] })) (T.v (.int .i64 2)=T.v (.int .i64 (dF d)))
          (aB (decide (y.2.1=2)) Z2 Z))
         (aB (decide (y.2.1=2)) Z2 Z)):=by
   intro Z2 Z hid h2 h1
   refine gP (fun g1=>?_) fun g1=>?_
   ·refine gP (fun g2=>bad (by decide) (by unfold lC;rw[if_neg (by simp[hid]),if_pos ⟨g1,g2⟩])) fun g2=>?_
    refine bL (fun h=>absurd h g1) fun _=>?_
    exact bL (fun _=>h2 g2) fun h=>absurd g2 h
   ·refine bL (fun _=>?_) fun h=>absurd g1 h
    refine gP (fun g3=>bad (by decide) (by unfold lC;rw[if_neg (by simp[hid]),if_neg (by simp[g1]),if_pos ⟨g1,g3⟩])) fun g3=>?_
    exact bL (fun h=>by rw[g1] at h;cases h) fun h=>h1 (by unfold lC;rw[if_neg (by simp[hid]),if_neg (by simp[g1]),if_neg (by simp[g3]),if_neg (by simp[h])])
  refine ixK (fun hn=>?_) fun i j hj hn=>?_
  ·have hn:cB d y.2.2=none:=hn
   rw[mR]
   refine dM (fun hid=>bad (by decide) (by unfold lC;rw[if_pos hid])) fun hid=>?_
   refine tail hid (fun h2=>bad (by decide) ?_) fun h0=>hok h0
   unfold lC;rw[if_neg (by simp[hid]),if_neg (by simp[h2]),if_neg (by simp[h2]),if_pos ⟨h2,by rw[hn];rfl⟩]
  ·have hn:cB d y.2.2=some d.2.1[j]:=hn
   rw[mR]
   refine dM (fun hid=>bad (by decide) (by unfold lC;rw[if_pos hid])) fun hid=>?_
   refine tail hid (fun h2=>hok ?_) fun h0=>hok h0
   unfold lC;rw[if_neg (by simp[hid]),if_neg (by simp[h2]),if_neg (by simp[h2]),if_neg (by simp[hn])]
 ·have hn:d.2.1.length≤140737488355328:=hs.n
  refine aZ d.2.1.length (fun k s=>s=((d.2.1.take k).any (fun n=>decide (8<(up d n.1).1.length)),(k:Int),())∧∀ n∈d.2.1.take k,(up d n.1).2=true) ⟨rfl,by simp⟩ ?_
  rintro X k s hk ⟨rfl,hall⟩ hX
  dsimp only
  refine bL (fun hlt=>?_) fun hge=>?_
  ·rw[List.length_map] at hlt
   have hlt:k<d.2.1.length:=by omega
   rw[aT (r:=bE) hlt]
   refine aD (s:=[(false,.li .str),(false,.bool)]) (K4 hs d.2.1[k].1) ?_
   have ht:d.2.1.take (k+1)=d.2.1.take k++[d.2.1[k]]:=List.take_succ_eq_append_getElem hlt
   have hw:IntKind.i64.wrap ((k:Int)+1)=((k+1:Nat):Int):=aS _ (by omega) (by omega)
   refine dM (fun hu=>is ?_) fun hu=>?_
   ·unfold dF
    rw[if_pos h0,if_pos (show RN d=true from List.any_eq_true.2 ⟨_,List.getElem_mem hlt,by rw[hu];rfl⟩)]
   ·have hall':∀ n∈d.2.1.take (k+1),(up d n.1).2=true:=fun n hm=>by
     rw[ht] at hm
     rcases List.mem_append.1 hm with h|h
     ·exact hall n h
     ·simp at h;subst h;exact hu
    refine rS (fun hd=>?_) fun hd=>?_
    ·refine hX _ hlt ⟨?_,hall'⟩
     rw[hw,ht,List.any_append,hd];rfl
    ·refine hX _ hlt ⟨?_,hall'⟩
     rw[hw,ht,List.any_append,hd]
     simp only[List.length_map,List.any_cons,List.any_nil,Bool.or_false,Bool.false_or,Prod.mk.injEq,and_true]
     congr 1
     exact propext ⟨fun h=>by omega,fun h=>by omega⟩
  ·rw[List.length_map] at hge
   have:k=d.2.1.length:=by omega
   subst this
   rw[List.take_length] at hall ⊢
   have hnu:RN d=false:=by
    rw[Bool.eq_false_iff];intro h
    obtain ⟨n,hm,h⟩:=List.any_eq_true.1 h
    rw[hall n hm] at h;cases h
   refine rS (fun h=>is ?_) fun h=>is ?_
   ·unfold dF;rw[if_pos h0,hnu,if_neg (by simp),if_pos (show BA d=true from h)]
   ·unfold dF;rw[if_pos h0,hnu,if_neg (by simp),if_neg (by rw[show BA d=false from h];simp)]
end Go.Pv
namespace Go.Pv
abbrev Pt:=Int×Int
def aI (a b c:Pt):Int:=(b.1-a.1)*(c.2-a.2)-(b.2-a.2)*(c.1-a.1)
def r4 (n:Int):Int:=if n<0 then -1 else if 0<n then 1 else 0
def L0 (a b q:Pt):Bool:=decide (min a.1 b.1≤q.1)&&decide (q.1≤max a.1 b.1)&&(decide (min a.2 b.2≤q.2)&&decide (q.2≤max a.2 b.2))
def iZ (a b q:Pt):Bool:=decide (aI a b q=0)&&L0 a b q
def bS (a b c d:Pt):Bool:=iZ a b c||iZ a b d||iZ c d a||iZ c d b||(decide (r4 (aI a b c)*r4 (aI a b d)<0)&&decide (r4 (aI c d a)*r4 (aI c d b)<0))
def bX (q:Pt):Prop:=-32768≤q.1∧q.1≤32768∧-32768≤q.2∧q.2≤32768
theorem CU {x y M N:Int} (hx:-M≤x∧x≤M) (hy:-N≤y∧y≤N) (hM:0≤M) (hN:0≤N):-(M*N)≤x*y∧x*y≤M*N:=by
 have h1:x.natAbs≤M.toNat:=by omega
 have h2:y.natAbs≤N.toNat:=by omega
 have h3:=Nat.mul_le_mul h1 h2
 rw[←Int.natAbs_mul] at h3
 have h4:((M.toNat*N.toNat:Nat):Int)=M*N:=by
  rw[Int.natCast_mul,Int.toNat_of_nonneg hM,Int.toNat_of_nonneg hN]
 omega
theorem AYO {a b c:Pt} (ha:bX a) (hb:bX b) (hc:bX c):(-4294967296≤(b.1-a.1)*(c.2-a.2)∧(b.1-a.1)*(c.2-a.2)≤4294967296)∧(-4294967296≤(b.2-a.2)*(c.1-a.1)∧(b.2-a.2)*(c.1-a.1)≤4294967296):=by
 unfold bX at ha hb hc
 have h1:=CU (x:=b.1-a.1) (y:=c.2-a.2) (M:=65536) (N:=65536) (by omega) (by omega) (by omega) (by omega)
 have h2:=CU (x:=b.2-a.2) (y:=c.1-a.1) (M:=65536) (N:=65536) (by omega) (by omega) (by omega) (by omega)
 constructor<;>constructor<;>omega
theorem A1U (n:Int):-1≤r4 n∧r4 n≤1:=by unfold r4;split<;>(try split)<;>omega
theorem mT (a b c d:Pt):bS a b c d=bS c d a b:=by
 unfold bS
 cases iZ a b c<;>cases iZ a b d<;>cases iZ c d a<;>cases iZ c d b<;>simp[Bool.and_comm]
end Go.Pv
namespace Go.Pv
theorem AAT (a b u v:Pt):aI u v b-aI u v a+aI a b v-aI a b u=0:=by
 simp only[aI];grind
theorem A9P (a b u v:Pt):(a.2-u.2)*aI u v b-(b.2-u.2)*aI u v a-(v.2-u.2)*aI a b u=0:=by
 simp only[aI];grind
theorem A9Q (a b u v:Pt):(a.2-v.2)*aI u v b-(b.2-v.2)*aI u v a+(u.2-v.2)*aI a b v=0:=by
 simp only[aI];grind
theorem A9N (a b u v:Pt):(b.2-a.2)*aI u v a+(v.2-a.2)*aI a b u-(u.2-a.2)*aI a b v=0:=by
 simp only[aI];grind
theorem A9O (a b u v:Pt):(b.2-a.2)*aI u v b+(v.2-b.2)*aI a b u-(u.2-b.2)*aI a b v=0:=by
 simp only[aI];grind
end Go.Pv
namespace Go.Pv
def hit (a b q:Pt):Bool:=(decide (a.2≤q.2)&&decide (q.2<b.2)&&decide (0<aI a b q))||(decide (b.2≤q.2)&&decide (q.2<a.2)&&decide (aI a b q<0))
def dr (u v w:Pt):Bool:=decide (u.2<w.2)&&decide (w.2≤v.2)&&decide (aI u v w<0)
theorem gH (a b q:Pt):aI b a q = - aI a b q:=by simp only[aI];grind
theorem AH5 (a b q:Pt):hit a b q=hit b a q:=by
 have e1:decide (0<aI b a q)=decide (aI a b q<0):=decide_eq_decide.2 (by rw[gH a b q];omega)
 have e2:decide (aI b a q<0)=decide (0<aI a b q):=decide_eq_decide.2 (by rw[gH a b q];omega)
 unfold hit
 rw[e1,e2,Bool.or_comm]
theorem A7Q {a b q:Pt} (h:aI a b q=0) (hab:a.2<b.2) (h1:a.2≤q.2) (h2:q.2≤b.2):L0 a b q=true:=by
 have e:(b.1-a.1)*(q.2-a.2)=(b.2-a.2)*(q.1-a.1):=by unfold aI at h;omega
 have hx:min a.1 b.1≤q.1∧q.1≤max a.1 b.1:=by
  rcases Int.le_total a.1 b.1 with hd|hd
  ·have m1:=Int.mul_nonneg (show 0≤b.1-a.1 by omega) (show 0≤q.2-a.2 by omega)
   have m2:(b.1-a.1)*(q.2-a.2)≤(b.1-a.1)*(b.2-a.2):=Int.mul_le_mul_of_nonneg_left (by omega) (by omega)
   have p1:0≤q.1-a.1:=by
    refine Int.not_lt.1 fun h=>?_
    have:=Int.mul_neg_of_pos_of_neg (show 0<b.2-a.2 by omega) h
    omega
   have p2:q.1-a.1≤b.1-a.1:=by
    refine Int.not_lt.1 fun h=>?_
    have h3:=Int.mul_lt_mul_of_pos_left h (show 0<b.2-a.2 by omega)
    have h4:(b.2-a.2)*(b.1-a.1)=(b.1-a.1)*(b.2-a.2):=Int.mul_comm _ _
    omega
   omega
  ·have m1:=Int.mul_nonneg (show 0≤a.1-b.1 by omega) (show 0≤q.2-a.2 by omega)
   have m2:(a.1-b.1)*(q.2-a.2)≤(a.1-b.1)*(b.2-a.2):=Int.mul_le_mul_of_nonneg_left (by omega) (by omega)
   have e1:(a.1-b.1)*(q.2-a.2) = - ((b.1-a.1)*(q.2-a.2)):=by grind
   have p1:q.1-a.1≤0:=by
    refine Int.not_lt.1 fun h=>?_
    have:=Int.mul_pos (show 0<b.2-a.2 by omega) h
    omega
   have p2:b.1-a.1≤q.1-a.1:=by
    refine Int.not_lt.1 fun h=>?_
    have h3:=Int.mul_lt_mul_of_pos_left h (show 0<b.2-a.2 by omega)
    have h4:(a.1-b.1)*(b.2-a.2) = - ((b.2-a.2)*(b.1-a.1)):=by grind
    omega
   omega
 simp only[L0,Bool.and_eq_true,decide_eq_true_eq]
 omega
theorem lW {a b q:Pt} (h:aI a b q=0) (hab:a.2<b.2) (h1:a.2≤q.2) (h2:q.2≤b.2):iZ a b q=true:=by
 unfold iZ;rw[decide_eq_true h,A7Q h hab h1 h2];rfl
theorem AA6 {a b q:Pt} (h1:a.2=q.2) (h2:b.2=q.2) (h3:min a.1 b.1≤q.1) (h4:q.1≤max a.1 b.1):iZ a b q=true:=by
 unfold iZ L0 aI
 simp only[Bool.and_eq_true,decide_eq_true_eq]
 refine ⟨?_,⟨h3,h4⟩,by omega⟩
 rw[h1,h2];grind
theorem nP {a b u v:Pt} (hm:bS a b u v=false):¬ (((0<aI a b u∧aI a b v<0)∨(aI a b u<0∧0<aI a b v))∧((0<aI u v a∧aI u v b<0)∨(aI u v a<0∧0<aI u v b))):=by
 rintro ⟨h1,h2⟩
 have s1:r4 (aI a b u)*r4 (aI a b v)<0:=by
  unfold r4
  rcases h1 with ⟨h,h'⟩|⟨h,h'⟩
  ·rw[if_neg (by omega),if_pos h,if_pos h'];decide
  ·rw[if_pos h,if_neg (by omega),if_pos h'];decide
 have s2:r4 (aI u v a)*r4 (aI u v b)<0:=by
  unfold r4
  rcases h2 with ⟨h,h'⟩|⟨h,h'⟩
  ·rw[if_neg (by omega),if_pos h,if_pos h'];decide
  ·rw[if_pos h,if_neg (by omega),if_pos h'];decide
 simp[bS,s1,s2] at hm
theorem pW {a b u v:Pt} (hm:bS a b u v=false):iZ a b u=false∧iZ a b v=false∧iZ u v a=false∧iZ u v b=false:=by
 simp only[bS,Bool.or_eq_false_iff] at hm
 exact ⟨hm.1.1.1.1,hm.1.1.1.2,hm.1.1.2,hm.1.2⟩
theorem AI0 {a b u v:Pt} (huv:u.2≤v.2) (hm:bS a b u v=false) (h1:a.2≤u.2) (h2:v.2<b.2):0<aI a b u↔0<aI a b v:=by
 obtain ⟨n1,n2,n3,n4⟩:=pW hm
 have ms:=nP hm
 have i1:=AAT a b u v
 have i2:=A9P a b u v
 have i3:=A9Q a b u v
 have z1:aI a b u≠0:=fun h=>by rw[lW h (by omega) h1 (by omega)] at n1;cases n1
 have z2:aI a b v≠0:=fun h=>by rw[lW h (by omega) (by omega) (by omega)] at n2;cases n2
 have e1:(a.2-u.2)*aI u v b = - ((u.2-a.2)*aI u v b):=by grind
 have e2:(a.2-v.2)*aI u v b = - ((v.2-a.2)*aI u v b):=by grind
 have e3:(u.2-v.2)*aI a b v = - ((v.2-u.2)*aI a b v):=by grind
 have flat:u.2=v.2→a.2=u.2→((0<aI a b u∧aI a b v<0)∨(aI a b u<0∧0<aI a b v))→False:=by
  intro g1 g2 g3
  have c1:aI a b u = -((b.2-a.2)*(u.1-a.1)):=by unfold aI;rw[g2];grind
  have c2:aI a b v = -((b.2-a.2)*(v.1-a.1)):=by unfold aI;rw[g2,g1];grind
  have sg:∀ x:Int,(0<(b.2-a.2)*x→0<x)∧((b.2-a.2)*x<0→x<0):=fun x=>by
   refine ⟨fun h=>Int.not_le.1 fun hx=>?_,fun h=>Int.not_le.1 fun hx=>?_⟩
   ·have:=Int.mul_nonpos_of_nonneg_of_nonpos (show 0≤b.2-a.2 by omega) hx
    omega
   ·have:=Int.mul_nonneg (show 0≤b.2-a.2 by omega) hx
    omega
  have k1:=sg (u.1-a.1)
  have k2:=sg (v.1-a.1)
  have:iZ u v a=true:=AA6 (by omega) (by omega) (by omega) (by omega)
  rw[this] at n3;cases n3
 constructor
 ·intro t1
  refine Int.not_le.1 fun t2=>?_
  have t2:aI a b v<0:=by omega
  have b1:=Int.mul_nonneg (show 0≤v.2-u.2 by omega) (Int.le_of_lt t1)
  have b2:=Int.mul_nonpos_of_nonneg_of_nonpos (show 0≤v.2-u.2 by omega) (Int.le_of_lt t2)
  rcases Int.lt_or_le (aI u v a) 0 with s1|s1
  ·rcases Int.lt_or_le 0 (aI u v b) with s2|s2
   ·exact ms ⟨.inl ⟨t1,t2⟩,.inr ⟨s1,s2⟩⟩
   ·have c1:=Int.mul_nonpos_of_nonneg_of_nonpos (show 0≤v.2-a.2 by omega) s2
    have c2:=Int.mul_neg_of_pos_of_neg (show 0<b.2-v.2 by omega) s1
    omega
  ·have s2:0<aI u v b:=by omega
   have c1:=Int.mul_nonneg (show 0≤u.2-a.2 by omega) (Int.le_of_lt s2)
   have c2:=Int.mul_nonneg (show 0≤b.2-u.2 by omega) s1
   have g1:v.2-u.2=0:=by
    refine Classical.byContradiction fun h=>?_
    have:=Int.mul_pos (show 0<v.2-u.2 by omega) t1
    omega
   have g2:u.2-a.2=0:=by
    refine Classical.byContradiction fun h=>?_
    have:=Int.mul_pos (show 0<u.2-a.2 by omega) s2
    omega
   exact flat (by omega) (by omega) (.inl ⟨t1,t2⟩)
 ·intro t2
  refine Int.not_le.1 fun t1=>?_
  have t1:aI a b u<0:=by omega
  have b2:=Int.mul_nonneg (show 0≤v.2-u.2 by omega) (Int.le_of_lt t2)
  have b1:=Int.mul_nonpos_of_nonneg_of_nonpos (show 0≤v.2-u.2 by omega) (Int.le_of_lt t1)
  rcases Int.lt_or_le 0 (aI u v a) with s1|s1
  ·rcases Int.lt_or_le (aI u v b) 0 with s2|s2
   ·exact ms ⟨.inr ⟨t1,t2⟩,.inl ⟨s1,s2⟩⟩
   ·have c1:=Int.mul_nonneg (show 0≤v.2-a.2 by omega) s2
    have c2:=Int.mul_pos (show 0<b.2-v.2 by omega) s1
    omega
  ·have s2:aI u v b<0:=by omega
   have c1:=Int.mul_nonpos_of_nonneg_of_nonpos (show 0≤u.2-a.2 by omega) (Int.le_of_lt s2)
   have c2:=Int.mul_nonpos_of_nonneg_of_nonpos (show 0≤b.2-u.2 by omega) s1
   have g1:v.2-u.2=0:=by
    refine Classical.byContradiction fun h=>?_
    have:=Int.mul_neg_of_pos_of_neg (show 0<v.2-u.2 by omega) t1
    omega
   have g2:u.2-a.2=0:=by
    refine Classical.byContradiction fun h=>?_
    have:=Int.mul_neg_of_pos_of_neg (show 0<u.2-a.2 by omega) s2
    omega
   exact flat (by omega) (by omega) (.inr ⟨t1,t2⟩)
end Go.Pv
namespace Go.Pv
theorem A4W {a b u v:Pt} (hm:bS a b u v=false) (h1:a.2≤u.2) (h2:u.2<b.2) (h3:b.2≤v.2):0<aI a b u↔aI u v b<0:=by
 obtain ⟨n1,n2,n3,n4⟩:=pW hm
 have ms:=nP hm
 have i2:=A9P a b u v
 have i4:=A9O a b u v
 have z1:aI a b u≠0:=fun h=>by rw[lW h (by omega) h1 (by omega)] at n1;cases n1
 have z2:aI u v b≠0:=fun h=>by rw[lW h (by omega) (by omega) (by omega)] at n4;cases n4
 have e1:(a.2-u.2)*aI u v b = - ((u.2-a.2)*aI u v b):=by grind
 have e2:(u.2-b.2)*aI a b v = - ((b.2-u.2)*aI a b v):=by grind
 constructor
 ·intro t1
  refine Int.not_le.1 fun s2=>?_
  have s2:0<aI u v b:=by omega
  have c1:=Int.mul_pos (show 0<b.2-a.2 by omega) s2
  have c2:=Int.mul_nonneg (show 0≤v.2-b.2 by omega) (Int.le_of_lt t1)
  have t2:aI a b v<0:=Int.not_le.1 fun h=>by
   have:=Int.mul_nonneg (show 0≤b.2-u.2 by omega) h
   omega
  have c3:=Int.mul_nonneg (show 0≤u.2-a.2 by omega) (Int.le_of_lt s2)
  have c4:=Int.mul_pos (show 0<v.2-u.2 by omega) t1
  have s1:aI u v a<0:=Int.not_le.1 fun h=>by
   have:=Int.mul_nonneg (show 0≤b.2-u.2 by omega) h
   omega
  exact ms ⟨.inl ⟨t1,t2⟩,.inr ⟨s1,s2⟩⟩
 ·intro s2
  refine Int.not_le.1 fun t1=>?_
  have t1:aI a b u<0:=by omega
  have c1:=Int.mul_neg_of_pos_of_neg (show 0<b.2-a.2 by omega) s2
  have c2:=Int.mul_nonpos_of_nonneg_of_nonpos (show 0≤v.2-b.2 by omega) (Int.le_of_lt t1)
  have t2:0<aI a b v:=Int.not_le.1 fun h=>by
   have:=Int.mul_nonpos_of_nonneg_of_nonpos (show 0≤b.2-u.2 by omega) h
   omega
  have c3:=Int.mul_nonpos_of_nonneg_of_nonpos (show 0≤u.2-a.2 by omega) (Int.le_of_lt s2)
  have c4:=Int.mul_neg_of_pos_of_neg (show 0<v.2-u.2 by omega) t1
  have s1:0<aI u v a:=Int.not_le.1 fun h=>by
   have:=Int.mul_nonpos_of_nonneg_of_nonpos (show 0≤b.2-u.2 by omega) h
   omega
  exact ms ⟨.inr ⟨t1,t2⟩,.inl ⟨s1,s2⟩⟩
theorem A1H {a b u v:Pt} (hm:bS a b u v=false) (h1:u.2<a.2) (h2:a.2≤v.2) (h3:v.2<b.2):0<aI a b v↔aI u v a<0:=by
 obtain ⟨n1,n2,n3,n4⟩:=pW hm
 have ms:=nP hm
 have i3:=A9Q a b u v
 have i4:=A9N a b u v
 have z1:aI a b v≠0:=fun h=>by rw[lW h (by omega) h2 (by omega)] at n2;cases n2
 have z2:aI u v a≠0:=fun h=>by rw[lW h (by omega) (by omega) (by omega)] at n3;cases n3
 have e1:(a.2-v.2)*aI u v b = - ((v.2-a.2)*aI u v b):=by grind
 have e2:(u.2-v.2)*aI a b v = - ((v.2-u.2)*aI a b v):=by grind
 have e3:(u.2-a.2)*aI a b v = - ((a.2-u.2)*aI a b v):=by grind
 constructor
 ·intro t2
  refine Int.not_le.1 fun s1=>?_
  have s1:0<aI u v a:=by omega
  have c1:=Int.mul_pos (show 0<b.2-v.2 by omega) s1
  have c2:=Int.mul_pos (show 0<v.2-u.2 by omega) t2
  have c3:=Int.mul_pos (show 0<b.2-a.2 by omega) s1
  have c4:=Int.mul_pos (show 0<a.2-u.2 by omega) t2
  have s2:aI u v b<0:=Int.not_le.1 fun h=>by
   have:=Int.mul_nonneg (show 0≤v.2-a.2 by omega) h
   omega
  have t1:aI a b u<0:=Int.not_le.1 fun h=>by
   have:=Int.mul_nonneg (show 0≤v.2-a.2 by omega) h
   omega
  exact ms ⟨.inr ⟨t1,t2⟩,.inl ⟨s1,s2⟩⟩
 ·intro s1
  refine Int.not_le.1 fun t2=>?_
  have t2:aI a b v<0:=by omega
  have c1:=Int.mul_neg_of_pos_of_neg (show 0<b.2-v.2 by omega) s1
  have c2:=Int.mul_neg_of_pos_of_neg (show 0<v.2-u.2 by omega) t2
  have c3:=Int.mul_neg_of_pos_of_neg (show 0<b.2-a.2 by omega) s1
  have c4:=Int.mul_neg_of_pos_of_neg (show 0<a.2-u.2 by omega) t2
  have s2:0<aI u v b:=Int.not_le.1 fun h=>by
   have:=Int.mul_nonpos_of_nonneg_of_nonpos (show 0≤v.2-a.2 by omega) h
   omega
  have t1:0<aI a b u:=Int.not_le.1 fun h=>by
   have:=Int.mul_nonpos_of_nonneg_of_nonpos (show 0≤v.2-a.2 by omega) h
   omega
  exact ms ⟨.inl ⟨t1,t2⟩,.inr ⟨s1,s2⟩⟩
theorem A4X {a b u v:Pt} (hm:bS a b u v=false) (h1:u.2<a.2) (h2:a.2≤b.2) (h3:b.2≤v.2):aI u v a<0↔aI u v b<0:=by
 obtain ⟨n1,n2,n3,n4⟩:=pW hm
 have ms:=nP hm
 have i1:=AAT a b u v
 have i3:=A9N a b u v
 have i4:=A9O a b u v
 have z1:aI u v a≠0:=fun h=>by rw[lW h (by omega) (by omega) (by omega)] at n3;cases n3
 have z2:aI u v b≠0:=fun h=>by rw[lW h (by omega) (by omega) (by omega)] at n4;cases n4
 have e2:(u.2-a.2)*aI a b v = - ((a.2-u.2)*aI a b v):=by grind
 have e3:(u.2-b.2)*aI a b v = - ((b.2-u.2)*aI a b v):=by grind
 have flat:a.2=b.2→v.2=b.2→((aI u v a<0∧0<aI u v b)∨(0<aI u v a∧aI u v b<0))→False:=by
  intro g1 g2 g3
  have c1:aI u v a=(v.2-u.2)*(v.1-a.1):=by unfold aI;rw[show a.2=v.2 by omega];grind
  have c2:aI u v b=(v.2-u.2)*(v.1-b.1):=by unfold aI;rw[show b.2=v.2 by omega];grind
  have sg:∀ x:Int,(0<(v.2-u.2)*x→0<x)∧((v.2-u.2)*x<0→x<0):=fun x=>by
   refine ⟨fun h=>Int.not_le.1 fun hx=>?_,fun h=>Int.not_le.1 fun hx=>?_⟩
   ·have:=Int.mul_nonpos_of_nonneg_of_nonpos (show 0≤v.2-u.2 by omega) hx
    omega
   ·have:=Int.mul_nonneg (show 0≤v.2-u.2 by omega) hx
    omega
  have k1:=sg (v.1-a.1)
  have k2:=sg (v.1-b.1)
  have:iZ a b v=true:=AA6 (by omega) (by omega) (by omega) (by omega)
  rw[this] at n2;cases n2
 constructor
 ·intro s1
  refine Int.not_le.1 fun s2=>?_
  have s2:0<aI u v b:=by omega
  have d1:=Int.mul_nonpos_of_nonneg_of_nonpos (show 0≤b.2-a.2 by omega) (Int.le_of_lt s1)
  have d2:=Int.mul_nonneg (show 0≤b.2-a.2 by omega) (Int.le_of_lt s2)
  rcases Int.lt_or_le (aI a b v) 0 with t2|t2
  ·rcases Int.lt_or_le 0 (aI a b u) with t1|t1
   ·exact ms ⟨.inl ⟨t1,t2⟩,.inr ⟨s1,s2⟩⟩
   ·have c1:=Int.mul_nonpos_of_nonneg_of_nonpos (show 0≤v.2-a.2 by omega) t1
    have c2:=Int.mul_neg_of_pos_of_neg (show 0<a.2-u.2 by omega) t2
    omega
  ·have t1:0<aI a b u:=by omega
   have c1:=Int.mul_nonneg (show 0≤v.2-b.2 by omega) (Int.le_of_lt t1)
   have c2:=Int.mul_nonneg (show 0≤b.2-u.2 by omega) t2
   have g1:b.2-a.2=0:=Classical.byContradiction fun h=>by
    have:=Int.mul_pos (show 0<b.2-a.2 by omega) s2
    omega
   have g2:v.2-b.2=0:=Classical.byContradiction fun h=>by
    have:=Int.mul_pos (show 0<v.2-b.2 by omega) t1
    omega
   exact flat (by omega) (by omega) (.inl ⟨s1,s2⟩)
 ·intro s2
  refine Int.not_le.1 fun s1=>?_
  have s1:0<aI u v a:=by omega
  have d1:=Int.mul_nonneg (show 0≤b.2-a.2 by omega) (Int.le_of_lt s1)
  have d2:=Int.mul_nonpos_of_nonneg_of_nonpos (show 0≤b.2-a.2 by omega) (Int.le_of_lt s2)
  rcases Int.lt_or_le 0 (aI a b v) with t2|t2
  ·rcases Int.lt_or_le (aI a b u) 0 with t1|t1
   ·exact ms ⟨.inr ⟨t1,t2⟩,.inl ⟨s1,s2⟩⟩
   ·have c1:=Int.mul_nonneg (show 0≤v.2-a.2 by omega) t1
    have c2:=Int.mul_pos (show 0<a.2-u.2 by omega) t2
    omega
  ·have t1:aI a b u<0:=by omega
   have c1:=Int.mul_nonpos_of_nonneg_of_nonpos (show 0≤v.2-b.2 by omega) (Int.le_of_lt t1)
   have c2:=Int.mul_nonpos_of_nonneg_of_nonpos (show 0≤b.2-u.2 by omega) t2
   have g1:b.2-a.2=0:=Classical.byContradiction fun h=>by
    have:=Int.mul_neg_of_pos_of_neg (show 0<b.2-a.2 by omega) s2
    omega
   have g2:v.2-b.2=0:=Classical.byContradiction fun h=>by
    have:=Int.mul_neg_of_pos_of_neg (show 0<v.2-b.2 by omega) t1
    omega
   exact flat (by omega) (by omega) (.inr ⟨s1,s2⟩)
theorem U4 {a b u v:Pt} (huv:u.2≤v.2) (hab:a.2≤b.2) (hm:bS a b u v=false):(hit a b u ^^ hit a b v)=(dr u v a ^^ dr u v b):=by
 have dn:∀ q:Pt,(decide (b.2≤q.2)&&decide (q.2<a.2)&&decide (aI a b q<0))=false:=fun q=>by
  rw[Bool.eq_false_iff];intro h;simp only[Bool.and_eq_true,decide_eq_true_eq] at h;omega
 unfold hit dr
 rw[dn u,dn v,Bool.or_false,Bool.or_false]
 rcases Int.lt_or_le u.2 b.2 with hb|hb
 ·rcases Int.lt_or_le v.2 a.2 with ha|ha
  ·simp[show ¬ a.2≤u.2 by omega,show ¬ a.2≤v.2 by omega,show ¬ b.2≤v.2 by omega]
  ·rcases Int.lt_or_le u.2 a.2 with ha2|ha2
   ·rcases Int.lt_or_le v.2 b.2 with hb2|hb2
    ·have:=A1H hm ha2 ha hb2
     simp[show ¬ a.2≤u.2 by omega,ha,hb2,show ¬ b.2≤v.2 by omega,ha2,this]
    ·have:=A4X hm ha2 hab hb2
     simp[show ¬ a.2≤u.2 by omega,ha,show ¬ v.2<b.2 by omega,hb2,ha2,hb,this]
   ·rcases Int.lt_or_le v.2 b.2 with hb2|hb2
    ·have:=AI0 huv hm ha2 hb2
     simp[ha2,ha,hb,hb2,show ¬ b.2≤v.2 by omega,show ¬ u.2<a.2 by omega,this]
    ·have:=A4W hm ha2 hb hb2
     simp[ha2,ha,hb,hb2,show ¬ v.2<b.2 by omega,show ¬ u.2<a.2 by omega,this]
 ·simp[show ¬ u.2<b.2 by omega,show ¬ v.2<b.2 by omega,show ¬ u.2<a.2 by omega]
end Go.Pv
namespace Go.Pv
theorem AYD (a b q:Pt):L0 b a q=L0 a b q:=by unfold L0;rw[Int.min_comm b.1,Int.max_comm b.1,Int.min_comm b.2,Int.max_comm b.2]
theorem MA (a b q:Pt):iZ b a q=iZ a b q:=by
 unfold iZ;rw[AYD,gH a b q]
 congr 1
 exact decide_eq_decide.2 (by omega)
theorem ARD (n:Int):r4 (-n) = - r4 n:=by unfold r4;split<;>split<;>(try split)<;>omega
theorem I8 (a b u v:Pt):bS b a u v=bS a b u v:=by
 unfold bS
 rw[MA a b u,MA a b v,gH a b u,gH a b v,ARD,ARD,Int.neg_mul_neg,Int.mul_comm (r4 (aI u v b))]
 cases iZ a b u<;>cases iZ a b v<;>cases iZ u v a<;>cases iZ u v b<;>rfl
theorem RJ (a b u v:Pt):bS a b v u=bS a b u v:=by rw[mT a b v u,I8,mT u v a b]
theorem P8 {a b u v:Pt} (huv:u.2≤v.2) (hm:bS a b u v=false):(hit a b u ^^ hit a b v)=(dr u v a ^^ dr u v b):=by
 rcases Int.le_total a.2 b.2 with h|h
 ·exact U4 huv h hm
 ·rw[AH5 a b u,AH5 a b v,Bool.xor_comm (dr u v a)]
  exact U4 huv h (by rw[I8];exact hm)
def fI:Nat→(Nat→Bool)→Bool
 | 0,_=>false
 | n+1,f=>fI n f ^^ f n
theorem iD {f g:Nat→Bool}:∀ {n:Nat},(∀ i,i<n→f i=g i)→fI n f=fI n g
 | 0,_=>rfl
 | n+1,h=>by rw[fI,fI,iD fun i hi=>h i (by omega),h n (by omega)]
theorem n9 (f g:Nat→Bool):∀ n:Nat,fI n (fun i=>f i ^^ g i)=(fI n f ^^ fI n g)
 | 0=>rfl
 | n+1=>by
  rw[fI,fI,fI,n9 f g n]
  cases fI n f<;>cases fI n g<;>cases f n<;>cases g n<;>rfl
theorem S5 (f:Nat→Bool):∀ n:Nat,fI (n+1) f=(f 0 ^^ fI n fun i=>f (i+1))
 | 0=>by simp[fI]
 | n+1=>by
  rw[fI,S5 f n,fI]
  cases f 0<;>cases f (n+1)<;>cases fI n (fun i=>f (i+1))<;>rfl
theorem A2D (d:Nat→Bool) (n:Nat):fI n (fun i=>d ((i+1) % n))=fI n d:=by
 cases n with
 | zero=>rfl
 | succ m =>
  rw[S5 d m,fI,Nat.mod_self]
  rw[iD (g:=fun i=>d (i+1)) fun i hi=>by rw[Nat.mod_eq_of_lt (by omega)]]
  cases d 0<;>cases fI m (fun i=>d (i+1))<;>rfl
theorem uJ (d:Nat→Bool) (n:Nat):fI n (fun i=>d i ^^ d ((i+1) % n))=false:=by
 rw[n9,A2D];cases fI n d<;>rfl
def pt (p:List Pt) (i:Nat):Pt:=p.getD i (0,0)
def nx (p:List Pt) (i:Nat):Pt:=pt p ((i+1) % p.length)
def fM (p:List Pt) (q:Pt):Bool:=fI p.length fun i=>hit (pt p i) (nx p i) q
theorem K6 {p:List Pt} {u v:Pt} (huv:u.2≤v.2) (h:∀ i,i<p.length→bS (pt p i) (nx p i) u v=false):fM p u=fM p v:=by
 have e:(fM p u ^^ fM p v)=false:=by
  unfold fM
  rw[←n9,iD fun i hi=>P8 huv (h i hi)]
  exact uJ (fun i=>dr u v (pt p i)) p.length
 revert e
 cases fM p u<;>cases fM p v<;>simp
theorem CP {p:List Pt} {u v:Pt} (h:∀ i,i<p.length→bS (pt p i) (nx p i) u v=false):fM p u=fM p v:=by
 rcases Int.le_total u.2 v.2 with huv|huv
 ·exact K6 huv h
 ·exact (K6 huv fun i hi=>by rw[RJ];exact h i hi).symm
end Go.Pv
namespace Go.Pv
open Go Go.Proofs
instance BAO (q:Pt):Decidable (bX q):=by unfold bX;infer_instance
theorem cM {a b:Bool} (h:a=b):T.v (.bool a)=T.v (.bool b):=by rw[h]
theorem rT {a b:Int} (h:a=b):T.v (.int .i64 a)=T.v (.int .i64 b):=by rw[h]
def xW {α:Type} (a b c:Pt) (r:α):Option α:=match decide (bX a∧bX b∧bX c) with
 | true=>some r
 | false=>none
theorem pX {α:Type} {a b c:Pt} {t r:α} (h:xW a b c t=some r):bX a∧bX b∧bX c∧r=t:=by
 unfold xW at h;split at h
 ·rename_i hc
  cases h
  obtain ⟨h1,h2,h3⟩:=of_decide_eq_true hc
  exact ⟨h1,h2,h3,rfl⟩
 ·cases h
theorem pY {α:Type} {a b c:Pt} (t:α) (ha:bX a) (hb:bX b) (hc:bX c):xW a b c t=some t:=by unfold xW;rw[decide_eq_true ⟨ha,hb,hc⟩]
theorem wG {a b c:Pt} (ha:bX a) (hb:bX b) (hc:bX c):IntKind.i64.wrap (IntKind.i64.wrap (IntKind.i64.wrap (b.1-a.1)*IntKind.i64.wrap (c.2-a.2))-IntKind.i64.wrap (IntKind.i64.wrap (b.2-a.2)*IntKind.i64.wrap (c.1-a.1)))=aI a b c:=by
 have h:=AYO ha hb hc
 unfold bX at ha hb hc
 rw[aS (b.1-a.1) (by omega) (by omega),aS (c.2-a.2) (by omega) (by omega),aS (b.2-a.2) (by omega) (by omega),aS (c.1-a.1) (by omega) (by omega),
  aS ((b.1-a.1)*(c.2-a.2)) (by omega) (by omega),aS ((b.2-a.2)*(c.1-a.1)) (by omega) (by omega),aS _ (by omega) (by omega)]
 rfl
theorem n8 (m n:Int):IntKind.i64.wrap (r4 m*r4 n)=r4 m*r4 n:=by
 have h:=CU (A1U m) (A1U n) (by omega) (by omega)
 exact aS _ (by omega) (by omega)
theorem xV (a b:Int):(if b<a then b else a)=min a b:=by omega
theorem xS (a b:Int):(if a<b then b else a)=max a b:=by omega
noncomputable def NQ:Env:=Env.of []
def AEZ:FuncId→Hint:=fun _=>aV
theorem AKP:aH Tryz.prog NQ:=aH.nil _
def OY (a0:aJ) (a1:aJ) (a2:aJ) (R:T→Prop):Prop :=
 R
 (T.v
 (Value.int IntKind.i64
 (IntKind.i64.wrap
 (IntKind.i64.wrap (IntKind.i64.wrap (a1.1-a0.1)*IntKind.i64.wrap (a2.2-a0.2)) -
 IntKind.i64.wrap (IntKind.i64.wrap (a1.2-a0.2)*IntKind.i64.wrap (a2.1-a0.1))))))
theorem ADR ( a0 a1 a2 R):bC aY Tryz.prog NQ AEZ 8 171 [aC true aA a0,aC true aA a1,aC true aA a2] R=OY a0 a1 a2 R:=by kernel_rfl
abbrev FZ:Sh:=[(true,aA),(true,aA),(true,aA)]
def J1 (x:aJ×aJ×aJ):Option T:=xW x.1 x.2.1 x.2.2 (T.v (Value.int .i64 (aI x.1 x.2.1 x.2.2)))
noncomputable def dW:List T→Option (T):=gS FZ J1
theorem AHF {a0 a1 a2}:dW [aC true aA a0,aC true aA a1,aC true aA a2]=J1 (a0,a1,a2):=a8 (s:=FZ) rfl (a0,a1,a2) rfl
theorem AVH (h:∀ a0 a1 a2 r,J1 (a0,a1,a2)=some r→b8 FZ (a0,a1,a2)→OY a0 a1 a2 (fun y=>y=r)):aK Tryz.prog 171 dW :=
 aR (E:=NQ) (Hs:=AEZ) AKP aW aX (aM rfl) 8 ⟨_,_,Tryz.func171,rfl⟩ rfl fun x r h1 h2=>by
  obtain ⟨a0,a1,a2⟩:=x
  rw[show Sh.bN FZ (a0,a1,a2)=[aC true aA a0,aC true aA a1,aC true aA a2] from rfl,ADR]
  exact h a0 a1 a2 r h1 h2
theorem zA:aK Tryz.prog 171 dW:=AVH fun a b c r h hb=>by
 obtain ⟨h1,h2,h3,rfl⟩:=pX h
 unfold OY
 exact rT (wG h1 h2 h3)
theorem jI {a b c:Pt} (h1:bX a) (h2:bX b) (h3:bX c):dW [aC true aA a,aC true aA b,aC true aA c]=some (Sh.enc [(false,.int .i64)] (aI a b c)):=(AHF ..).trans (pY _ h1 h2 h3)
noncomputable def NZ:Env:=Env.of []
def AE8:FuncId→Hint:=fun _=>aV
theorem AKY:aH Tryz.prog NZ:=aH.nil _
def O7 (a0:aJ) (a1:aJ) (a2:aJ) (R:T→Prop):Prop :=
 R
 (T.v
 (Value.int IntKind.i64
 (IntKind.i64.wrap
 (IntKind.i64.wrap (IntKind.i64.wrap (a1.1-a0.1)*IntKind.i64.wrap (a2.2-a0.2)) -
 IntKind.i64.wrap (IntKind.i64.wrap (a1.2-a0.2)*IntKind.i64.wrap (a2.1-a0.1))))))
theorem AD0 ( a0 a1 a2 R):bC aY Tryz.prog NZ AE8 8 174 [aC true aA a0,aC true aA a1,aC true aA a2] R=O7 a0 a1 a2 R:=by kernel_rfl
abbrev F8:Sh:=[(true,aA),(true,aA),(true,aA)]
def J8 (x:aJ×aJ×aJ):Option T:=xW x.1 x.2.1 x.2.2 (T.v (Value.int .i64 (aI x.1 x.2.1 x.2.2)))
noncomputable def kB:List T→Option (T):=gS F8 J8
theorem AHR {a0 a1 a2}:kB [aC true aA a0,aC true aA a1,aC true aA a2]=J8 (a0,a1,a2):=a8 (s:=F8) rfl (a0,a1,a2) rfl
theorem AVQ (h:∀ a0 a1 a2 r,J8 (a0,a1,a2)=some r→b8 F8 (a0,a1,a2)→O7 a0 a1 a2 (fun y=>y=r)):aK Tryz.prog 174 kB :=
 aR (E:=NZ) (Hs:=AE8) AKY aW aX (aM rfl) 8 ⟨_,_,Tryz.func174,rfl⟩ rfl fun x r h1 h2=>by
  obtain ⟨a0,a1,a2⟩:=x
  rw[show Sh.bN F8 (a0,a1,a2)=[aC true aA a0,aC true aA a1,aC true aA a2] from rfl,AD0]
  exact h a0 a1 a2 r h1 h2
theorem ATV:aK Tryz.prog 174 kB:=AVQ fun a b c r h hb=>by
 obtain ⟨h1,h2,h3,rfl⟩:=pX h
 unfold O7
 exact rT (wG h1 h2 h3)
theorem rA {a b c:Pt} (h1:bX a) (h2:bX b) (h3:bX c):kB [aC true aA a,aC true aA b,aC true aA c]=some (Sh.enc [(false,.int .i64)] (aI a b c)):=(AHR ..).trans (pY _ h1 h2 h3)
noncomputable def N4:Env:=Env.of []
def AFD:FuncId→Hint:=fun _=>aV
theorem AK3:aH Tryz.prog N4:=aH.nil _
def PC (a0:aJ) (a1:aJ) (a2:aJ) (R:T→Prop):Prop :=
 R
 (T.v
 (Value.int IntKind.i64
 (IntKind.i64.wrap
 (IntKind.i64.wrap (IntKind.i64.wrap (a1.1-a0.1)*IntKind.i64.wrap (a2.2-a0.2)) -
 IntKind.i64.wrap (IntKind.i64.wrap (a1.2-a0.2)*IntKind.i64.wrap (a2.1-a0.1))))))
theorem AD5 ( a0 a1 a2 R):bC aY Tryz.prog N4 AFD 8 164 [aC true aA a0,aC true aA a1,aC true aA a2] R=PC a0 a1 a2 R:=by kernel_rfl
abbrev GB:Sh:=[(true,aA),(true,aA),(true,aA)]
def KE (x:aJ×aJ×aJ):Option T:=xW x.1 x.2.1 x.2.2 (T.v (Value.int .i64 (aI x.1 x.2.1 x.2.2)))
noncomputable def dL:List T→Option (T):=gS GB KE
theorem AH2 {a0 a1 a2}:dL [aC true aA a0,aC true aA a1,aC true aA a2]=KE (a0,a1,a2):=a8 (s:=GB) rfl (a0,a1,a2) rfl
theorem AVV (h:∀ a0 a1 a2 r,KE (a0,a1,a2)=some r→b8 GB (a0,a1,a2)→PC a0 a1 a2 (fun y=>y=r)):aK Tryz.prog 164 dL :=
 aR (E:=N4) (Hs:=AFD) AK3 aW aX (aM rfl) 8 ⟨_,_,Tryz.func164,rfl⟩ rfl fun x r h1 h2=>by
  obtain ⟨a0,a1,a2⟩:=x
  rw[show Sh.bN GB (a0,a1,a2)=[aC true aA a0,aC true aA a1,aC true aA a2] from rfl,AD5]
  exact h a0 a1 a2 r h1 h2
theorem IT:aK Tryz.prog 164 dL:=AVV fun a b c r h hb=>by
 obtain ⟨h1,h2,h3,rfl⟩:=pX h
 unfold PC
 exact rT (wG h1 h2 h3)
theorem lA {a b c:Pt} (h1:bX a) (h2:bX b) (h3:bX c):dL [aC true aA a,aC true aA b,aC true aA c]=some (Sh.enc [(false,.int .i64)] (aI a b c)):=(AH2 ..).trans (pY _ h1 h2 h3)
noncomputable def XH:Env:=Env.of []
def APY:FuncId→Hint:=fun _=>aV
theorem AR5:aH Tryz.prog XH:=aH.nil _
def YU (a0:Int) (R:T→Prop):Prop :=
 aB (!decide (a0=a0)) (R (T.v (.int .i64 (-1))))
 (aB (decide (a0<0)) (R (T.v (.int .i64 (-1))))
 (aB (decide (0<a0)) (R (T.v (.int .i64 1)))
 (R (T.v (.int .i64 0)))))
theorem ALP ( a0 R):bC aY Tryz.prog XH APY 8 185 [aC false (Sy.int IntKind.i64) a0] R=YU a0 R:=by kernel_rfl
abbrev MQ:Sh:=[(false,(Sy.int IntKind.i64))]
def SU (n:Int):Option T:=some (T.v (Value.int .i64 (r4 n)))
noncomputable def nB:List T→Option (T):=gS MQ SU
theorem ANJ {a0}:nB [T.v (.int .i64 a0)]=SU (a0):=a8 (s:=MQ) rfl (a0) rfl
theorem A08 (h:∀ a0 r,SU (a0)=some r→b8 MQ (a0)→YU a0 (fun y=>y=r)):aK Tryz.prog 185 nB :=
 aR (E:=XH) (Hs:=APY) AR5 aW aX (aM rfl) 8 ⟨_,_,Tryz.func185,rfl⟩ rfl fun x r h1 h2=>by
  let a0:=x
  rw[show Sh.bN MQ (a0)=[aC false (Sy.int IntKind.i64) a0] from rfl,ALP]
  exact h a0 r h1 h2
theorem u5 (n:Int):nB [T.v (.int .i64 n)]=some (Sh.enc [(false,.int .i64)] (r4 n)):=ANJ ..
noncomputable def N2:Env:=Env.of []
def AFB:FuncId→Hint:=fun _=>aV
theorem AK1:aH Tryz.prog N2:=aH.nil _
def PA (a0:Int) (R:T→Prop):Prop :=
 aB (decide (a0<0)) (R (T.v (.int .i64 (-1))))
 (aB (decide (0<a0)) (R (T.v (.int .i64 1)))
 (R (T.v (.int .i64 0))))
theorem AD3 ( a0 R):bC aY Tryz.prog N2 AFB 8 187 [aC false (Sy.int IntKind.i64) a0] R=PA a0 R:=by kernel_rfl
abbrev GA:Sh:=[(false,(Sy.int IntKind.i64))]
def KB (n:Int):Option T:=some (T.v (Value.int .i64 (r4 n)))
noncomputable def kD:List T→Option (T):=gS GA KB
theorem AHZ {a0}:kD [T.v (.int .i64 a0)]=KB (a0):=a8 (s:=GA) rfl (a0) rfl
theorem AVT (h:∀ a0 r,KB (a0)=some r→b8 GA (a0)→PA a0 (fun y=>y=r)):aK Tryz.prog 187 kD :=
 aR (E:=N2) (Hs:=AFB) AK1 aW aX (aM rfl) 8 ⟨_,_,Tryz.func187,rfl⟩ rfl fun x r h1 h2=>by
  let a0:=x
  rw[show Sh.bN GA (a0)=[aC false (Sy.int IntKind.i64) a0] from rfl,AD3]
  exact h a0 r h1 h2
theorem rB (n:Int):kD [T.v (.int .i64 n)]=some (Sh.enc [(false,.int .i64)] (r4 n)):=AHZ ..
noncomputable def XI:Env:=Env.of []
def APZ:FuncId→Hint:=fun _=>aV
theorem AR6:aH Tryz.prog XI:=aH.nil _
def YY (a0:Int) (R:T→Prop):Prop :=
 R (T.v (.int .i64 (if 1<if a0 < -1 then -1 else a0 then 1 else if a0 < -1 then -1 else a0)))
theorem ALQ ( a0 R):bC aY Tryz.prog XI APZ 8 173 [aC false (Sy.int IntKind.i64) a0] R=YY a0 R:=by kernel_rfl
abbrev MR:Sh:=[(false,(Sy.int IntKind.i64))]
def SV (n:Int):Option T:=some (T.v (Value.int .i64 (r4 n)))
noncomputable def nC:List T→Option (T):=gS MR SV
theorem ANK {a0}:nC [T.v (.int .i64 a0)]=SV (a0):=a8 (s:=MR) rfl (a0) rfl
theorem A09 (h:∀ a0 r,SV (a0)=some r→b8 MR (a0)→YY a0 (fun y=>y=r)):aK Tryz.prog 173 nC :=
 aR (E:=XI) (Hs:=APZ) AR6 aW aX (aM rfl) 8 ⟨_,_,Tryz.func173,rfl⟩ rfl fun x r h1 h2=>by
  let a0:=x
  rw[show Sh.bN MR (a0)=[aC false (Sy.int IntKind.i64) a0] from rfl,ALQ]
  exact h a0 r h1 h2
theorem u6 (n:Int):nC [T.v (.int .i64 n)]=some (Sh.enc [(false,.int .i64)] (r4 n)):=ANK ..
theorem AZD:aK Tryz.prog 185 nB:=A08 fun n r h hb=>by
 cases h
 unfold YU
 refine gP (fun h=>absurd rfl h) fun _=>?_
 exact bL (fun h=>rT (by unfold r4;rw[if_pos h])) fun h=>bL (fun h2=>rT (by unfold r4;rw[if_neg h,if_pos h2])) fun h2=>rT (by unfold r4;rw[if_neg h,if_neg h2])
theorem ATX:aK Tryz.prog 187 kD:=AVT fun n r h hb=>by
 cases h
 unfold PA
 exact bL (fun h=>rT (by unfold r4;rw[if_pos h])) fun h=>bL (fun h2=>rT (by unfold r4;rw[if_neg h,if_pos h2])) fun h2=>rT (by unfold r4;rw[if_neg h,if_neg h2])
theorem AZE:aK Tryz.prog 173 nC:=A09 fun n r h hb=>by
 cases h
 unfold YY
 refine rT ?_
 unfold r4
 omega
noncomputable def G4:Env:=Env.of []
def UL:FuncId→Hint:=fun _=>aV
theorem ACR:aH Tryz.prog G4:=aH.nil _
def HX (a0:aJ) (a1:aJ) (a2:aJ) (R:T→Prop):Prop :=
 aB (decide ((if a1.1<a0.1 then a1.1 else a0.1)≤a2.1))
 (aB (decide (a2.1≤if a0.1<a1.1 then a1.1 else a0.1))
 (aB (decide ((if a1.2<a0.2 then a1.2 else a0.2)≤a2.2))
 (R (T.v (.bool (decide (a2.2≤if a0.2<a1.2 then a1.2 else a0.2)))))
 (R (T.v (.bool false))))
 (R (T.v (.bool false))))
 (R (T.v (.bool false)))
theorem YX ( a0 a1 a2 R):bC aY Tryz.prog G4 UL 8 186 [aC true aA a0,aC true aA a1,aC true aA a2] R=HX a0 a1 a2 R:=by kernel_rfl
abbrev AH:Sh:=[(true,aA),(true,aA),(true,aA)]
def DF (x:aJ×aJ×aJ):Option T:=some (T.v (.bool (L0 x.1 x.2.1 x.2.2)))
noncomputable def o3:List T→Option (T):=gS AH DF
theorem AAG {a0 a1 a2}:o3 [aC true aA a0,aC true aA a1,aC true aA a2]=DF (a0,a1,a2):=a8 (s:=AH) rfl (a0,a1,a2) rfl
theorem AOK (h:∀ a0 a1 a2 r,DF (a0,a1,a2)=some r→b8 AH (a0,a1,a2)→HX a0 a1 a2 (fun y=>y=r)):aK Tryz.prog 186 o3 :=
 aR (E:=G4) (Hs:=UL) ACR aW aX (aM rfl) 8 ⟨_,_,Tryz.func186,rfl⟩ rfl fun x r h1 h2=>by
  obtain ⟨a0,a1,a2⟩:=x
  rw[show Sh.bN AH (a0,a1,a2)=[aC true aA a0,aC true aA a1,aC true aA a2] from rfl,YX]
  exact h a0 a1 a2 r h1 h2
theorem AMV:aK Tryz.prog 186 o3:=AOK fun a b c r h hb=>by
 cases h
 unfold HX
 rw[xV,xV,xS,xS]
 refine bL (fun h1=>bL (fun h2=>bL (fun h3=>cM ?_) fun h3=>cM ?_) fun h2=>cM ?_) fun h1=>cM ?_
 all_goals simp[L0,h1]
 all_goals simp[h2]
 all_goals simp[h3]
noncomputable def AWY:Env:=Env.of []
def A5N:FuncId→Hint:=fun _=>aV
theorem A2S:aH Tryz.prog AWY:=aH.nil _
def AXT (a0:aJ) (a1:aJ) (a2:aJ) (R:T→Prop):Prop :=
 aB (decide ((if a1.1<a0.1 then a1.1 else a0.1)≤a2.1))
 (aB (decide (a2.1≤if a0.1<a1.1 then a1.1 else a0.1))
 (aB (decide ((if a1.2<a0.2 then a1.2 else a0.2)≤a2.2))
 (R (T.v (.bool (decide (a2.2≤if a0.2<a1.2 then a1.2 else a0.2)))))
 (R (T.v (.bool false))))
 (R (T.v (.bool false))))
 (R (T.v (.bool false)))
theorem AXU ( a0 a1 a2 R):bC aY Tryz.prog AWY A5N 8 175 [aC true aA a0,aC true aA a1,aC true aA a2] R=AXT a0 a1 a2 R:=by kernel_rfl
abbrev ARA:Sh:=[(true,aA),(true,aA),(true,aA)]
abbrev AQ6:Sh:=[(false,Sy.bool)]
theorem AOY (y:Sh.den AQ6) (K:Sh.den AQ6→Prop):aG AQ6 (some (Sh.enc AQ6 y)) K=K y:=mF rfl y K
def ABU (x:aJ×aJ×aJ):Option T:=some (T.v (.bool (L0 x.1 x.2.1 x.2.2)))
noncomputable def eG:List T→Option (T):=gS ARA ABU
theorem AZT {a0 a1 a2}:eG [aC true aA a0,aC true aA a1,aC true aA a2]=ABU (a0,a1,a2):=a8 (s:=ARA) rfl (a0,a1,a2) rfl
theorem A79 (h:∀ a0 a1 a2 r,ABU (a0,a1,a2)=some r→b8 ARA (a0,a1,a2)→AXT a0 a1 a2 (fun y=>y=r)):aK Tryz.prog 175 eG :=
 aR (E:=AWY) (Hs:=A5N) A2S aW aX (aM rfl) 8 ⟨_,_,Tryz.func175,rfl⟩ rfl fun x r h1 h2=>by
  obtain ⟨a0,a1,a2⟩:=x
  rw[show Sh.bN ARA (a0,a1,a2)=[aC true aA a0,aC true aA a1,aC true aA a2] from rfl,AXU]
  exact h a0 a1 a2 r h1 h2
theorem A65:aK Tryz.prog 175 eG:=A79 fun a b c r h hb=>by
 cases h
 unfold AXT
 rw[xV,xV,xS,xS]
 refine bL (fun h1=>bL (fun h2=>bL (fun h3=>cM ?_) fun h3=>cM ?_) fun h2=>cM ?_) fun h1=>cM ?_
 all_goals simp[L0,h1]
 all_goals simp[h2]
 all_goals simp[h3]
noncomputable def AWS:Env:=Env.of [(171,.pure dW),(186,.pure o3)]
def A5H:FuncId→Hint:=fun _=>aV
theorem A2M:aH Tryz.prog AWS:=aH.cons (x:=.pure dW) zA (aH.cons (x:=.pure o3) AMV (aH.nil _))
def AXH (a0:aJ) (a1:aJ) (a2:aJ) (R:T→Prop):Prop :=
 aG [(false,Sy.int IntKind.i64)]
 (dW [aC true aA a0,aC true aA a1,aC true aA a2])
 fun (y0:Int) =>
 aB (decide (y0=0))
 (aG [(false,Sy.bool)]
 (o3
 [aC true aA a0,aC true aA a1,aC true aA a2])
 fun (y1:Bool)=>R (T.v (.bool y1)))
 (R (T.v (.bool false)))
theorem AXI ( a0 a1 a2 R):bC aY Tryz.prog AWS A5H 8 176 [aC true aA a0,aC true aA a1,aC true aA a2] R=AXH a0 a1 a2 R:=by kernel_rfl
abbrev AQ9:Sh:=[(true,aA),(true,aA),(true,aA)]
def AO9 (x:aJ×aJ×aJ):Option T:=xW x.1 x.2.1 x.2.2 (T.v (.bool (iZ x.1 x.2.1 x.2.2)))
noncomputable def sR:List T→Option (T):=gS AQ9 AO9
theorem AZM {a0 a1 a2}:sR [aC true aA a0,aC true aA a1,aC true aA a2]=AO9 (a0,a1,a2):=a8 (s:=AQ9) rfl (a0,a1,a2) rfl
theorem A73 (h:∀ a0 a1 a2 r,AO9 (a0,a1,a2)=some r→b8 AQ9 (a0,a1,a2)→AXH a0 a1 a2 (fun y=>y=r)):aK Tryz.prog 176 sR :=
 aR (E:=AWS) (Hs:=A5H) A2M aW aX (aM rfl) 8 ⟨_,_,Tryz.func176,rfl⟩ rfl fun x r h1 h2=>by
  obtain ⟨a0,a1,a2⟩:=x
  rw[show Sh.bN AQ9 (a0,a1,a2)=[aC true aA a0,aC true aA a1,aC true aA a2] from rfl,AXI]
  exact h a0 a1 a2 r h1 h2
theorem AZC:aK Tryz.prog 176 sR:=A73 fun a b c r h hb=>by
 obtain ⟨h1,h2,h3,rfl⟩:=pX h
 unfold AXH
 refine aD (s:=[(false,.int .i64)]) (jI h1 h2 h3) ?_
 refine bL (fun h=>?_) fun h=>cM (by unfold iZ;rw[decide_eq_false h];rfl)
 refine aD (s:=[(false,.bool)]) (y:=L0 a b c) (AAG ..) ?_
 exact cM (by unfold iZ;rw[decide_eq_true h];rfl)
theorem xK {a b c:Pt} (h1:bX a) (h2:bX b) (h3:bX c):sR [aC true aA a,aC true aA b,aC true aA c]=some (Sh.enc [(false,.bool)] (iZ a b c)):=(AZM ..).trans (pY _ h1 h2 h3)
def LD {α:Type} (a b c d:Pt) (r:α):Option α:=match decide (bX a∧bX b∧bX c∧bX d) with
 | true=>some r
 | false=>none
theorem EW {α:Type} {a b c d:Pt} {t r:α} (h:LD a b c d t=some r):bX a∧bX b∧bX c∧bX d∧r=t:=by
 unfold LD at h;split at h
 ·rename_i hc
  cases h
  obtain ⟨h1,h2,h3,h4⟩:=of_decide_eq_true hc
  exact ⟨h1,h2,h3,h4,rfl⟩
 ·cases h
theorem EX {α:Type} {a b c d:Pt} (t:α) (ha:bX a) (hb:bX b) (hc:bX c) (hd:bX d):LD a b c d t=some t:=by unfold LD;rw[decide_eq_true ⟨ha,hb,hc,hd⟩]
noncomputable def XG:Env:=Env.of [(171,.pure dW),(176,.pure sR),(185,.pure nB)]
def APX:FuncId→Hint:=fun _=>aV
theorem AR4:aH Tryz.prog XG:=aH.cons (x:=.pure dW) zA (aH.cons (x:=.pure sR) AZC (aH.cons (x:=.pure nB) AZD (aH.nil _)))
def YT (a0:aJ) (a1:aJ) (a2:aJ) (a3:aJ) (R:T→Prop):Prop :=
 aG [(false,Sy.bool)]
 (sR [aC true aA a0,aC true aA a1,aC true aA a2])
 fun (y0:Bool) =>
 aB y0 (R (T.v (.bool true)))
 (aG [(false,Sy.bool)]
 (sR [aC true aA a0,aC true aA a1,aC true aA a3])
 fun (y1:Bool) =>
 aB y1 (R (T.v (.bool true)))
 (aG [(false,Sy.bool)]
 (sR
 [aC true aA a2,aC true aA a3,aC true aA a0])
 fun (y2:Bool) =>
 aB y2 (R (T.v (.bool true)))
 (aG [(false,Sy.bool)]
 (sR
 [aC true aA a2,aC true aA a3,aC true aA a1])
 fun (y3:Bool) =>
 aB y3 (R (T.v (.bool true)))
 (aG [(false,Sy.int IntKind.i64)]
 (dW
 [aC true aA a0,aC true aA a1,aC true aA a2])
 fun (y4:Int) =>
 aG [(false,Sy.int IntKind.i64)]
 (nB [T.v (.int .i64 y4)]) fun (y5:Int) =>
 aG [(false,Sy.int IntKind.i64)]
 (dW
 [aC true aA a0,aC true aA a1,
 aC true aA a3])
 fun (y6:Int) =>
 aG [(false,Sy.int IntKind.i64)]
 (nB [T.v (.int .i64 y6)]) fun (y7:Int) =>
 aB (decide (IntKind.i64.wrap (y5*y7)<0))
 (aG [(false,Sy.int IntKind.i64)]
 (dW
 [aC true aA a2,aC true aA a3,
 aC true aA a0])
 fun (y8:Int) =>
 aG [(false,Sy.int IntKind.i64)]
 (nB [T.v (.int .i64 y8)]) fun (y9:Int) =>
 aG [(false,Sy.int IntKind.i64)]
 (dW
 [aC true aA a2,aC true aA a3,
 aC true aA a1])
 fun (y10:Int) =>
 aG [(false,Sy.int IntKind.i64)]
 (nB [T.v (.int .i64 y10)]) fun (y11:Int) =>
 R (T.v (.bool (decide (IntKind.i64.wrap (y9*y11)<0)))))
 (R (T.v (.bool false)))))))
theorem ALO ( a0 a1 a2 a3 R):bC aY Tryz.prog XG APX 8 172 [aC true aA a0,aC true aA a1,aC true aA a2,
 aC true aA a3] R=YT a0 a1 a2 a3 R:=by kernel_rfl
abbrev MO:Sh:=[(true,aA),(true,aA),(true,aA),(true,aA)]
def SS (x:aJ×aJ×aJ×aJ):Option T:=LD x.1 x.2.1 x.2.2.1 x.2.2.2 (T.v (.bool (bS x.1 x.2.1 x.2.2.1 x.2.2.2)))
noncomputable def oN:List T→Option (T):=gS MO SS
theorem ANH {a0 a1 a2 a3}:oN [aC true aA a0,aC true aA a1,aC true aA a2,
 aC true aA a3]=SS (a0,a1,a2,a3):=a8 (s:=MO) rfl (a0,a1,a2,a3) rfl
theorem A07 (h:∀ a0 a1 a2 a3 r,SS (a0,a1,a2,a3)=some r→b8 MO (a0,a1,a2,a3)→YT a0 a1 a2 a3 (fun y=>y=r)):aK Tryz.prog 172 oN :=
 aR (E:=XG) (Hs:=APX) AR4 aW aX (aM rfl) 8 ⟨_,_,Tryz.func172,rfl⟩ rfl fun x r h1 h2=>by
  obtain ⟨a0,a1,a2,a3⟩:=x
  rw[show Sh.bN MO (a0,a1,a2,a3)=[aC true aA a0,aC true aA a1,aC true aA a2,
 aC true aA a3] from rfl,ALO]
  exact h a0 a1 a2 a3 r h1 h2
theorem AZB:aK Tryz.prog 172 oN:=A07 fun a b c d r h hb=>by
 obtain ⟨h1,h2,h3,h4,rfl⟩:=EW h
 unfold YT
 refine aD (s:=[(false,.bool)]) (xK h1 h2 h3) ?_
 refine rS (fun h=>cM (by unfold bS;rw[h];rfl)) fun k1=>?_
 refine aD (s:=[(false,.bool)]) (xK h1 h2 h4) ?_
 refine rS (fun h=>cM (by unfold bS;rw[h,k1];rfl)) fun k2=>?_
 refine aD (s:=[(false,.bool)]) (xK h3 h4 h1) ?_
 refine rS (fun h=>cM (by unfold bS;rw[h,k1,k2];rfl)) fun k3=>?_
 refine aD (s:=[(false,.bool)]) (xK h3 h4 h2) ?_
 refine rS (fun h=>cM (by unfold bS;rw[h,k1,k2,k3];rfl)) fun k4=>?_
 refine aD (s:=[(false,.int .i64)]) (jI h1 h2 h3) ?_
 refine aD (s:=[(false,.int .i64)]) (u5 _) ?_
 refine aD (s:=[(false,.int .i64)]) (jI h1 h2 h4) ?_
 refine aD (s:=[(false,.int .i64)]) (u5 _) ?_
 rw[n8]
 refine bL (fun h=>?_) fun h=>cM (by unfold bS;rw[k1,k2,k3,k4,decide_eq_false h];rfl)
 refine aD (s:=[(false,.int .i64)]) (jI h3 h4 h1) ?_
 refine aD (s:=[(false,.int .i64)]) (u5 _) ?_
 refine aD (s:=[(false,.int .i64)]) (jI h3 h4 h2) ?_
 refine aD (s:=[(false,.int .i64)]) (u5 _) ?_
 rw[n8]
 exact cM (by unfold bS;rw[k1,k2,k3,k4,decide_eq_true h];rfl)
theorem ANI {a b c d:Pt} (h1:bX a) (h2:bX b) (h3:bX c) (h4:bX d):oN [aC true aA a,aC true aA b,aC true aA c,aC true aA d]=some (Sh.enc [(false,.bool)] (bS a b c d)):=(ANH ..).trans (EX _ h1 h2 h3 h4)
noncomputable def AJX:Env:=Env.of []
def AX1:FuncId→Hint:=fun _=>aV
theorem AW5:aH Tryz.prog AJX:=aH.nil _
def ALM (a0:aJ) (R:T→Prop):Prop :=
 aB (decide (a0.1 < -32768)) (R (T.v (.bool true)))
 (aB (decide (32768<a0.1)) (R (T.v (.bool true)))
 (aB (decide (a0.2 < -32768)) (R (T.v (.bool true)))
 (R (T.v (.bool (decide (32768<a0.2)))))))
theorem ASD ( a0 R):bC aY Tryz.prog AJX AX1 8 152 [aC true aA a0] R=ALM a0 R:=by kernel_rfl
abbrev ABK:Sh:=[(true,aA)]
def ABT (q:aJ):Option T:=some (T.v (.bool (!decide (bX q))))
noncomputable def uZ:List T→Option (T):=gS ABK ABT
theorem VN {a0}:uZ [aC true aA a0]=ABT (a0):=a8 (s:=ABK) rfl (a0) rfl
theorem A4L (h:∀ a0 r,ABT (a0)=some r→b8 ABK (a0)→ALM a0 (fun y=>y=r)):aK Tryz.prog 152 uZ :=
 aR (E:=AJX) (Hs:=AX1) AW5 aW aX (aM rfl) 8 ⟨_,_,Tryz.func152,rfl⟩ rfl fun x r h1 h2=>by
  let a0:=x
  rw[show Sh.bN ABK (a0)=[aC true aA a0] from rfl,ASD]
  exact h a0 r h1 h2
theorem AQH:aK Tryz.prog 152 uZ:=A4L fun q r h hb=>by
 cases h
 unfold ALM
 have no:¬ bX q→true = !decide (bX q):=fun h=>by rw[decide_eq_false h];rfl
 refine bL (fun h=>cM (no (by unfold bX;omega))) fun h1=>bL (fun h=>cM (no (by unfold bX;omega))) fun h2=>bL (fun h=>cM (no (by unfold bX;omega))) fun h3=>cM ?_
 by_cases h:bX q
 ·rw[decide_eq_true h,Bool.not_true]
  unfold bX at h
  exact decide_eq_false (by omega)
 ·rw[decide_eq_false h,Bool.not_false]
  unfold bX at h
  exact decide_eq_true (by omega)
theorem SG {n:Int}:r4 n=0↔n=0:=by
 unfold r4
 split
 ·omega
 ·split<;>omega
noncomputable def N1:Env:=Env.of [(174,.pure kB),(173,.pure nC),(175,.pure eG)]
def AFA:FuncId→Hint:=fun _=>aV
theorem AK0:aH Tryz.prog N1:=aH.cons (x:=.pure kB) ATV (aH.cons (x:=.pure nC) AZE (aH.cons (x:=.pure eG) A65 (aH.nil _)))
def O9 (a0:aJ) (a1:aJ) (a2:aJ) (a3:aJ) (R:T→Prop):Prop :=
 aG [(false,Sy.int IntKind.i64)]
 (kB [aC true aA a0,aC true aA a1,aC true aA a2])
 fun (y0:Int) =>
 aG [(false,Sy.int IntKind.i64)] (nC [T.v (.int .i64 y0)])
 fun (y1:Int) =>
 aG [(false,Sy.int IntKind.i64)]
 (kB
 [aC true aA a0,aC true aA a1,aC true aA a3])
 fun (y2:Int) =>
 aG [(false,Sy.int IntKind.i64)] (nC [T.v (.int .i64 y2)])
 fun (y3:Int) =>
 aG [(false,Sy.int IntKind.i64)]
 (kB
 [aC true aA a2,aC true aA a3,aC true aA a0])
 fun (y4:Int) =>
 aG [(false,Sy.int IntKind.i64)]
 (nC [T.v (.int .i64 y4)]) fun (y5:Int) =>
 aG [(false,Sy.int IntKind.i64)]
 (kB
 [aC true aA a2,aC true aA a3,aC true aA a1])
 fun (y6:Int) =>
 aG [(false,Sy.int IntKind.i64)]
 (nC [T.v (.int .i64 y6)]) fun (y7:Int) =>
 aB (decide (IntKind.i64.wrap (y1*y3)<0))
 (aB (decide (IntKind.i64.wrap (y5*y7)<0)) (R (T.v (.bool true)))
 (aB (decide (y1=0))
 (aG [(false,Sy.bool)]
 (eG
 [aC true aA a0,aC true aA a1,
 aC true aA a2])
 fun (y8:Bool) =>
 aB y8 (R (T.v (.bool true)))
 (aB (decide (y3=0))
 (aG [(false,Sy.bool)]
 (eG
 [aC true aA a0,aC true aA a1,
 aC true aA a3])
 fun (y9:Bool) =>
 aB y9 (R (T.v (.bool true)))
 (aB (decide (y5=0))
 (aG [(false,Sy.bool)]
 (eG
 [aC true aA a2,aC true aA a3,
 aC true aA a0])
 fun (y10:Bool) =>
 aB y10 (R (T.v (.bool true)))
 (aB (decide (y7=0))
 (aG [(false,Sy.bool)]
 (eG
 [aC true aA a2,aC true aA a3,
 aC true aA a1])
 fun (y11:Bool)=>R (T.v (.bool y11)))
 (R (T.v (.bool false)))))
 (aB (decide (y7=0))
 (aG [(false,Sy.bool)]
 (eG
 [aC true aA a2,aC true aA a3,
 aC true aA a1])
 fun (y12:Bool)=>R (T.v (.bool y12)))
 (R (T.v (.bool false))))))
 (aB (decide (y5=0))
 (aG [(false,Sy.bool)]
 (eG
 [aC true aA a2,aC true aA a3,
 aC true aA a0])
 fun (y13:Bool) =>
 aB y13 (R (T.v (.bool true)))
 (aB (decide (y7=0))
 (aG [(false,Sy.bool)]
 (eG
 [aC true aA a2,aC true aA a3,
 aC true aA a1])
 fun (y14:Bool)=>R (T.v (.bool y14)))
 (R (T.v (.bool false)))))
 (aB (decide (y7=0))
 (aG [(false,Sy.bool)]
 (eG
 [aC true aA a2,aC true aA a3,
 aC true aA a1])
 fun (y15:Bool)=>R (T.v (.bool y15)))
 (R (T.v (.bool false)))))))
 (aB (decide (y3=0))
 (aG [(false,Sy.bool)]
 (eG
 [aC true aA a0,aC true aA a1,
 aC true aA a3])
 fun (y16:Bool) =>
 aB y16 (R (T.v (.bool true)))
 (aB (decide (y5=0))
 (aG [(false,Sy.bool)]
 (eG
 [aC true aA a2,aC true aA a3,
 aC true aA a0])
 fun (y17:Bool) =>
 aB y17 (R (T.v (.bool true)))
 (aB (decide (y7=0))
 (aG [(false,Sy.bool)]
 (eG
 [aC true aA a2,aC true aA a3,
 aC true aA a1])
 fun (y18:Bool)=>R (T.v (.bool y18)))
 (R (T.v (.bool false)))))
 (aB (decide (y7=0))
 (aG [(false,Sy.bool)]
 (eG
 [aC true aA a2,aC true aA a3,
 aC true aA a1])
 fun (y19:Bool)=>R (T.v (.bool y19)))
 (R (T.v (.bool false))))))
 (aB (decide (y5=0))
 (aG [(false,Sy.bool)]
 (eG
 [aC true aA a2,aC true aA a3,
 aC true aA a0])
 fun (y20:Bool) =>
 aB y20 (R (T.v (.bool true)))
 (aB (decide (y7=0))
 (aG [(false,Sy.bool)]
 (eG
 [aC true aA a2,aC true aA a3,
 aC true aA a1])
 fun (y21:Bool)=>R (T.v (.bool y21)))
 (R (T.v (.bool false)))))
 (aB (decide (y7=0))
 (aG [(false,Sy.bool)]
 (eG
 [aC true aA a2,aC true aA a3,
 aC true aA a1])
 fun (y22:Bool)=>R (T.v (.bool y22)))
 (R (T.v (.bool false))))))))
 (aB (decide (y1=0))
 (aG [(false,Sy.bool)]
 (eG
 [aC true aA a0,aC true aA a1,
 aC true aA a2])
 fun (y23:Bool) =>
 aB y23 (R (T.v (.bool true)))
 (aB (decide (y3=0))
 (aG [(false,Sy.bool)]
 (eG
 [aC true aA a0,aC true aA a1,
 aC true aA a3])
 fun (y24:Bool) =>
 aB y24 (R (T.v (.bool true)))
 (aB (decide (y5=0))
 (aG [(false,Sy.bool)]
 (eG
 [aC true aA a2,aC true aA a3,
 aC true aA a0])
 fun (y25:Bool) =>
 aB y25 (R (T.v (.bool true)))
 (aB (decide (y7=0))
 (aG [(false,Sy.bool)]
 (eG
 [aC true aA a2,aC true aA a3,
 aC true aA a1])
 fun (y26:Bool)=>R (T.v (.bool y26)))
 (R (T.v (.bool false)))))
 (aB (decide (y7=0))
 (aG [(false,Sy.bool)]
 (eG
 [aC true aA a2,aC true aA a3,
 aC true aA a1])
 fun (y27:Bool)=>R (T.v (.bool y27)))
 (R (T.v (.bool false))))))
 (aB (decide (y5=0))
 (aG [(false,Sy.bool)]
 (eG
 [aC true aA a2,aC true aA a3,
 aC true aA a0])
 fun (y28:Bool) =>
 aB y28 (R (T.v (.bool true)))
 (aB (decide (y7=0))
 (aG [(false,Sy.bool)]
 (eG
 [aC true aA a2,aC true aA a3,
 aC true aA a1])
 fun (y29:Bool)=>R (T.v (.bool y29)))
 (R (T.v (.bool false)))))
 (aB (decide (y7=0))
 (aG [(false,Sy.bool)]
 (eG
 [aC true aA a2,aC true aA a3,
 aC true aA a1])
 fun (y30:Bool)=>R (T.v (.bool y30)))
 (R (T.v (.bool false)))))))
 (aB (decide (y3=0))
 (aG [(false,Sy.bool)]
 (eG
 [aC true aA a0,aC true aA a1,
 aC true aA a3])
 fun (y31:Bool) =>
 aB y31 (R (T.v (.bool true)))
 (aB (decide (y5=0))
 (aG [(false,Sy.bool)]
 (eG
 [aC true aA a2,aC true aA a3,
 aC true aA a0])
 fun (y32:Bool) =>
 aB y32 (R (T.v (.bool true)))
 (aB (decide (y7=0))
 (aG [(false,Sy.bool)]
 (eG
 [aC true aA a2,aC true aA a3,
 aC true aA a1])
 fun (y33:Bool)=>R (T.v (.bool y33)))
 (R (T.v (.bool false)))))
 (aB (decide (y7=0))
 (aG [(false,Sy.bool)]
 (eG
 [aC true aA a2,aC true aA a3,
 aC true aA a1])
 fun (y34:Bool)=>R (T.v (.bool y34)))
 (R (T.v (.bool false))))))
 (aB (decide (y5=0))
 (aG [(false,Sy.bool)]
 (eG
 [aC true aA a2,aC true aA a3,
 aC true aA a0])
 fun (y35:Bool) =>
 aB y35 (R (T.v (.bool true)))
 (aB (decide (y7=0))
 (aG [(false,Sy.bool)]
 (eG
 [aC true aA a2,aC true aA a3,
 aC true aA a1])
 fun (y36:Bool)=>R (T.v (.bool y36)))
 (R (T.v (.bool false)))))
 (aB (decide (y7=0))
 (aG [(false,Sy.bool)]
 (eG
 [aC true aA a2,aC true aA a3,
 aC true aA a1])
 fun (y37:Bool)=>R (T.v (.bool y37)))
 (R (T.v (.bool false)))))))
theorem AD2 ( a0 a1 a2 a3 R):bC aY Tryz.prog N1 AFA 8 156 [aC true aA a0,aC true aA a1,aC true aA a2,
 aC true aA a3] R=O9 a0 a1 a2 a3 R:=by kernel_rfl
abbrev F9:Sh:=[(true,aA),(true,aA),(true,aA),(true,aA)]
def KA (x:aJ×aJ×aJ×aJ):Option T:=LD x.1 x.2.1 x.2.2.1 x.2.2.2 (T.v (.bool (bS x.1 x.2.1 x.2.2.1 x.2.2.2)))
noncomputable def sU:List T→Option (T):=gS F9 KA
theorem AHY {a0 a1 a2 a3}:sU [aC true aA a0,aC true aA a1,aC true aA a2,
 aC true aA a3]=KA (a0,a1,a2,a3):=a8 (s:=F9) rfl (a0,a1,a2,a3) rfl
theorem AVS (h:∀ a0 a1 a2 a3 r,KA (a0,a1,a2,a3)=some r→b8 F9 (a0,a1,a2,a3)→O9 a0 a1 a2 a3 (fun y=>y=r)):aK Tryz.prog 156 sU :=
 aR (E:=N1) (Hs:=AFA) AK0 aW aX (aM rfl) 8 ⟨_,_,Tryz.func156,rfl⟩ rfl fun x r h1 h2=>by
  obtain ⟨a0,a1,a2,a3⟩:=x
  rw[show Sh.bN F9 (a0,a1,a2,a3)=[aC true aA a0,aC true aA a1,aC true aA a2,
 aC true aA a3] from rfl,AD2]
  exact h a0 a1 a2 a3 r h1 h2
theorem A1R (a b c:Pt) (K:Bool→Prop):aG [(false,Sy.bool)] (eG [aC true aA a,aC true aA b,aC true aA c]) K=K (L0 a b c):=by
 rw[show eG [aC true aA a,aC true aA b,aC true aA c]=ABU (a,b,c) from AZT ..]
 exact AOY _ K
theorem ATW:aK Tryz.prog 156 sU:=AVS fun a b c d r h hb=>by
 obtain ⟨h1,h2,h3,h4,rfl⟩:=EW h
 unfold O9
 refine aD (s:=[(false,.int .i64)]) (rA h1 h2 h3) ?_
 refine aD (s:=[(false,.int .i64)]) (u6 _) ?_
 refine aD (s:=[(false,.int .i64)]) (rA h1 h2 h4) ?_
 refine aD (s:=[(false,.int .i64)]) (u6 _) ?_
 refine aD (s:=[(false,.int .i64)]) (rA h3 h4 h1) ?_
 refine aD (s:=[(false,.int .i64)]) (u6 _) ?_
 refine aD (s:=[(false,.int .i64)]) (rA h3 h4 h2) ?_
 refine aD (s:=[(false,.int .i64)]) (u6 _) ?_
 rw[n8,n8]
 have e:∀ {n:Bool},bS a b c d=n→T.v (.bool n)=T.v (.bool (bS a b c d)):=fun h=>by rw[h]
 simp only[A1R]
 unfold bS at e
 unfold iZ at e
 clear h hb
 repeat' first
  | refine bL (fun h=>?_) (fun h=>?_)
  | refine rS (fun h=>?_) (fun h=>?_)
 all_goals (refine e ?_;clear e;simp only[SG] at *;simp[*,show r4 0=0 from rfl])
end Go.Pv
namespace Go.Pv
open Go Go.Proofs
theorem vR {p:List Pt} {i:Nat} (h:i<p.length):pt p i=p[i]:=by unfold pt;rw[List.getD_eq_getElem?_getD,List.getElem?_eq_getElem h];rfl
theorem bW {p:List aJ} {k:Nat} (h:k<p.length) (K:aJ→Prop):aO aA (List.map aA.enc p) (k:Int) K=K (pt p k):=by
 rw[aT (r:=aA) h,vR h]
theorem iY {i n c:Nat} (hn:n≤1000) (hi:i≤1000) (hc:c≤2):(IntKind.i64.wrap ((i:Int)+(c:Int))).tmod (n:Int)=(((i+c) % n:Nat):Int):=by
 rw[aS _ (by omega) (by omega),Int.tmod_eq_emod_of_nonneg (by omega),Int.natCast_emod,Int.natCast_add]
def lO (a b c:Pt):Int:=(a.1-b.1)*(c.1-b.1)+(a.2-b.2)*(c.2-b.2)
def qN (p:List Pt) (i k:Nat):Bool:=!(!decide ((k+1) % p.length=i)&&bS (pt p i) (nx p i) (pt p k) (nx p k))
def nR (p:List Pt) (i:Nat):Pt:=pt p ((i+2) % p.length)
def EY (p:List Pt) (i:Nat):Bool:=!decide (pt p i=nx p i)&&(!(decide (aI (pt p i) (nx p i) (nR p i)=0)&&decide (0<lO (pt p i) (nx p i) (nR p i)))&&(List.range p.length).all fun k=>decide (k<i+2)||qN p i k)
def oJ (p:List Pt):Bool:=(List.range p.length).all (EY p)
def gR (p:List Pt):Prop:=∀ q∈p,bX q
def BH (p:List Pt):Bool:=p.all fun q=>decide (bX q)
theorem iS {p:List Pt}:BH p=true↔gR p:=by
 simp only[BH,List.all_eq_true,decide_eq_true_eq];exact Iff.rfl
theorem gR.pt {p:List Pt} (h:gR p) (i:Nat):bX (pt p i):=by
 rcases Nat.lt_or_ge i p.length with hi|hi
 ·rw[vR hi];exact h _ (List.getElem_mem hi)
 ·unfold Go.Pv.pt
  rw[List.getD_eq_getElem?_getD,List.getElem?_eq_none hi]
  unfold bX;decide
def TW (p:List Pt):Bool:=decide (p.length≤1000)&&BH p
def RV {α:Type} (p:List Pt) (r:α):Option α:=match TW p with
 | true=>some r
 | false=>none
theorem RW {α:Type} {p:List Pt} {t r:α} (h:RV p t=some r):p.length≤1000∧gR p∧r=t:=by
 unfold RV at h;split at h
 ·rename_i hc
  simp only[TW,Bool.and_eq_true,decide_eq_true_eq,iS] at hc
  cases h;exact ⟨hc.1,hc.2,rfl⟩
 ·cases h
theorem RX {α:Type} {p:List Pt} (t:α) (h:p.length≤1000) (h2:gR p):RV p t=some t:=by
 unfold RV;rw[show TW p=true by simp only[TW,Bool.and_eq_true,decide_eq_true_eq,iS];exact ⟨h,h2⟩]
theorem A2C {a b c:Pt} (ha:bX a) (hb:bX b) (hc:bX c):IntKind.i64.wrap (IntKind.i64.wrap (IntKind.i64.wrap (a.1-b.1)*IntKind.i64.wrap (c.1-b.1))+IntKind.i64.wrap (IntKind.i64.wrap (a.2-b.2)*IntKind.i64.wrap (c.2-b.2)))=lO a b c:=by
 unfold bX at ha hb hc
 have h1:=CU (x:=a.1-b.1) (y:=c.1-b.1) (M:=65536) (N:=65536) (by omega) (by omega) (by omega) (by omega)
 have h2:=CU (x:=a.2-b.2) (y:=c.2-b.2) (M:=65536) (N:=65536) (by omega) (by omega) (by omega) (by omega)
 rw[aS (a.1-b.1) (by omega) (by omega),aS (c.2-b.2) (by omega) (by omega),aS (a.2-b.2) (by omega) (by omega),aS (c.1-b.1) (by omega) (by omega),
  aS ((a.1-b.1)*(c.1-b.1)) (by omega) (by omega),aS ((a.2-b.2)*(c.2-b.2)) (by omega) (by omega),aS _ (by omega) (by omega)]
 rfl
noncomputable def G2:Env:=Env.of [(171,.pure dW),(172,.pure oN)]
def UJ:FuncId→Hint:=fun f=>match f == 153 with|true=>⟨fun r=>match r == 3 with|true=>.inv [.val 13 false (.int .i64)]|false=>match r == 12 with|true=>.inv [.val 8 false (.int .i64)]|false=>.none,fun _ _=>none,fun _=>none⟩|false=>aV
theorem ACP:aH Tryz.prog G2:=aH.cons (x:=.pure dW) zA (aH.cons (x:=.pure oN) AZB (aH.nil _))
def HV (a0:List aJ) (R:T→Prop):Prop :=
 bA (Int×PUnit)
 (fun (X0:Int×PUnit→Prop) (s1:Int×PUnit) =>
 aB (decide (s1.1<(↑(List.map aA.enc a0).length:Int)))
 (aO aA (List.map aA.enc a0) s1.1 fun (y2:aJ) =>
 bP (!decide ((↑(List.map aA.enc a0).length:Int)=0))
 (aO aA (List.map aA.enc a0)
 ((IntKind.i64.wrap (s1.1+1)).tmod (↑(List.map aA.enc a0).length:Int))
 fun (y3:aJ) =>
 aB (decide (y2.1=y3.1)&&(decide (y2.2=y3.2)&&true))
 (R (T.v (.bool false)))
 (bP (!decide ((↑(List.map aA.enc a0).length:Int)=0))
 (aO aA (List.map aA.enc a0)
 ((IntKind.i64.wrap (s1.1+2)).tmod (↑(List.map aA.enc a0).length:Int))
 fun (y4:aJ) =>
 aG [(false,Sy.int IntKind.i64)]
 (dW
 [aC true aA y2,aC true aA y3,
 aC true aA y4])
 fun (y5:Int) =>
 aB (decide (y5=0))
 (aB
 (decide
 (0 <
 IntKind.i64.wrap
 (IntKind.i64.wrap
 (IntKind.i64.wrap (y2.1-y3.1)*IntKind.i64.wrap (y4.1-y3.1)) +
 IntKind.i64.wrap
 (IntKind.i64.wrap (y2.2-y3.2)*IntKind.i64.wrap (y4.2-y3.2)))))
 (R (T.v (.bool false)))
 (bA (Int×PUnit)
 (fun (X6:Int×PUnit→Prop) (s7:Int×PUnit) =>
 aB (decide (s7.1<(↑(List.map aA.enc a0).length:Int)))
 (bP (!decide ((↑(List.map aA.enc a0).length:Int)=0))
 (aB
 (!decide
 ((IntKind.i64.wrap (s7.1+1)).tmod
 (↑(List.map aA.enc a0).length:Int) =
 s1.1))
 (aO aA (List.map aA.enc a0) s7.1
 fun (y8:aJ) =>
 bP (!decide ((↑(List.map aA.enc a0).length:Int)=0))
 (aO aA (List.map aA.enc a0)
 ((IntKind.i64.wrap (s7.1+1)).tmod
 (↑(List.map aA.enc a0).length:Int))
 fun (y9:aJ) =>
 aG [(false,Sy.bool)]
 (oN
 [aC true aA y2,aC true aA y3,
 aC true aA y8,aC true aA y9])
 fun (y10:Bool) =>
 aB y10 (R (T.v (.bool false)))
 (X6 (IntKind.i64.wrap (s7.1+1),()))))
 (X6 (IntKind.i64.wrap (s7.1+1),()))))
 (X0 (IntKind.i64.wrap (s1.1+1),())))
 (IntKind.i64.wrap (s1.1+2),())))
 (bA (Int×PUnit)
 (fun (X11:Int×PUnit→Prop) (s12:Int×PUnit) =>
 aB (decide (s12.1<(↑(List.map aA.enc a0).length:Int)))
 (bP (!decide ((↑(List.map aA.enc a0).length:Int)=0))
 (aB
 (!decide
 ((IntKind.i64.wrap (s12.1+1)).tmod
 (↑(List.map aA.enc a0).length:Int) =
 s1.1))
 (aO aA (List.map aA.enc a0) s12.1
 fun (y13:aJ) =>
 bP (!decide ((↑(List.map aA.enc a0).length:Int)=0))
 (aO aA (List.map aA.enc a0)
 ((IntKind.i64.wrap (s12.1+1)).tmod
 (↑(List.map aA.enc a0).length:Int))
 fun (y14:aJ) =>
 aG [(false,Sy.bool)]
 (oN
 [aC true aA y2,aC true aA y3,
 aC true aA y13,aC true aA y14])
 fun (y15:Bool) =>
 aB y15 (R (T.v (.bool false)))
 (X11 (IntKind.i64.wrap (s12.1+1),()))))
 (X11 (IntKind.i64.wrap (s12.1+1),()))))
 (X0 (IntKind.i64.wrap (s1.1+1),())))
 (IntKind.i64.wrap (s1.1+2),()))))))
 (R (T.v (.bool true))))
 (0,())
theorem YV ( a0 R):bC aY Tryz.prog G2 UJ 8 153 [aC false aA.li a0] R=HV a0 R:=by kernel_rfl
abbrev AF:Sh:=[(false,aA.li)]
def DD (p:List aJ):Option T:=RV p (T.v (.bool (oJ p)))
noncomputable def kZ:List T→Option (T):=gS AF DD
theorem AAD {a0}:kZ [T.sl false (List.map aA.enc a0)]=DD (a0):=a8 (s:=AF) rfl (a0) rfl
theorem AOI (h:∀ a0 r,DD (a0)=some r→b8 AF (a0)→HV a0 (fun y=>y=r)):aK Tryz.prog 153 kZ :=
 aR (E:=G2) (Hs:=UJ) ACP aW aX (aM rfl) 8 ⟨_,_,Tryz.func153,rfl⟩ rfl fun x r h1 h2=>by
  let a0:=x
  rw[show Sh.bN AF (a0)=[aC false aA.li a0] from rfl,YV]
  exact h a0 r h1 h2
theorem qX {n:Nat} {f:Nat→Bool} {i:Nat} (hi:i<n) (h:f i=false):(List.range n).all f=false:=by
 rw[Bool.eq_false_iff];intro ha
 have:=cG.1 ha i hi
 rw[h] at this;cases this
theorem AWB {p:List aJ} {i:Nat} (hl:p.length≤1000) (hn:gR p) (hi:i<p.length) {Bad Good:Prop} (hbad:(List.range p.length).all (fun k=>decide (k<i+2)||qN p i k)=false→Bad) (hgood:(List.range p.length).all (fun k=>decide (k<i+2)||qN p i k)=true→Good) :
  bA (Int×PUnit)
   (fun (X6:Int×PUnit→Prop) (s7:Int×PUnit) =>
    aB (decide (s7.1<(↑(List.map aA.enc p).length:Int)))
     (bP (!decide ((↑(List.map aA.enc p).length:Int)=0))
      (aB (!decide ((IntKind.i64.wrap (s7.1+1)).tmod (↑(List.map aA.enc p).length:Int)=(i:Int)))
       (aO aA (List.map aA.enc p) s7.1 fun (y8:aJ) =>
        bP (!decide ((↑(List.map aA.enc p).length:Int)=0))
         (aO aA (List.map aA.enc p) ((IntKind.i64.wrap (s7.1+1)).tmod (↑(List.map aA.enc p).length:Int))
          fun (y9:aJ) =>
          aG [(false,Sy.bool)] (oN [aC true aA (pt p i),aC true aA (nx p i),aC true aA y8,aC true aA y9])
           fun (y10:Bool)=>aB y10 Bad (X6 (IntKind.i64.wrap (s7.1+1),()))))
       (X6 (IntKind.i64.wrap (s7.1+1),()))))
     Good)
   (IntKind.i64.wrap ((i:Int)+2),()):=by
 refine aZ p.length (fun m s=>s=(((i+2+m:Nat):Int),())∧∀ k,k<i+2+m→k<p.length→(decide (k<i+2)||qN p i k)=true) ⟨by rw[aS _ (by omega) (by omega)];simp,fun k h1 h2=>by simp at h1;simp[h1]⟩ ?_
 rintro X m s hm ⟨rfl,hJ⟩ hX
 dsimp only
 rw[List.length_map]
 refine bL (fun hlt=>?_) fun hge=>hgood (cG.2 fun k hk=>hJ k (by omega) hk)
 have hk:i+2+m<p.length:=by omega
 have hne:(!decide ((p.length:Int)=0))=true:=by rw[decide_eq_false (by omega)];rfl
 have hix:(IntKind.i64.wrap (((i+2+m:Nat):Int)+1)).tmod (p.length:Int)=(((i+2+m+1) % p.length:Nat):Int):=iY (c:=1) hl (by omega) (by omega)
 have hw:IntKind.i64.wrap (((i+2+m:Nat):Int)+1)=((i+2+(m+1):Nat):Int):=by rw[aS _ (by omega) (by omega)];omega
 have hmod:(i+2+m+1) % p.length<p.length:=Nat.mod_lt _ (by omega)
 have go:qN p i (i+2+m)=true→X (((i+2+(m+1):Nat):Int),()):=fun h=>hX _ (by omega) ⟨rfl,fun k h1 h2=>by
  rcases Nat.lt_or_ge k (i+2+m) with h3|h3
  ·exact hJ k h3 h2
  ·have:k=i+2+m:=by omega
   subst this;rw[h];simp⟩
 refine ⟨hne,?_⟩
 rw[hix,hw]
 refine gP (fun h=>?_) fun h=>go (by unfold qN;rw[decide_eq_true (show (i+2+m+1) % p.length=i by omega)];rfl)
 rw[bW hk,AI6,bW hmod]
 refine ⟨hne,?_⟩
 refine aD (s:=[(false,.bool)]) (ANI (hn.pt _) (hn.pt _) (hn.pt _) (hn.pt _)) ?_
 have e:qN p i (i+2+m) = !bS (pt p i) (nx p i) (pt p (i+2+m)) (nx p (i+2+m)):=by
  unfold qN;rw[decide_eq_false (show ¬ (i+2+m+1) % p.length=i by omega)];rfl
 refine rS (fun hm=>hbad (qX hk ?_)) fun hm=>go ?_
 ·show (decide (i+2+m<i+2)||qN p i (i+2+m))=false
  rw[e,show bS (pt p i) (nx p i) (pt p (i+2+m)) (nx p (i+2+m))=true from hm];simp
 ·rw[e,show bS (pt p i) (nx p i) (pt p (i+2+m)) (nx p (i+2+m))=false from hm];rfl
theorem AMU:aK Tryz.prog 153 kZ:=AOI fun p r h hb=>by
 obtain ⟨hl,hn,rfl⟩:=RW h
 clear h
 unfold HV
 refine aZ p.length (fun k s=>s=((k:Int),())∧∀ i,i<k→i<p.length→EY p i=true) ⟨rfl,fun i h=>by omega⟩ ?_
 rintro X k s hk ⟨rfl,hJ⟩ hX
 dsimp only
 refine bL (fun hlt=>?_) fun hge=>cM (Eq.symm (cG.2 fun i hi=>hJ i (by rw[List.length_map] at hge;omega) hi))
 rw[List.length_map] at hlt
 have hlt:k<p.length:=by omega
 have hne:(!decide (((List.map aA.enc p).length:Int)=0))=true:=by rw[List.length_map,decide_eq_false (by omega)];rfl
 have hm1:(k+1) % p.length<p.length:=Nat.mod_lt _ (by omega)
 have hm2:(k+2) % p.length<p.length:=Nat.mod_lt _ (by omega)
 have i1:(IntKind.i64.wrap ((k:Int)+1)).tmod ((List.map aA.enc p).length:Int)=(((k+1) % p.length:Nat):Int):=by rw[List.length_map];exact iY (c:=1) hl (by omega) (by omega)
 have i2:(IntKind.i64.wrap ((k:Int)+2)).tmod ((List.map aA.enc p).length:Int)=(((k+2) % p.length:Nat):Int):=by rw[List.length_map];exact iY (c:=2) hl (by omega) (by omega)
 have bad:EY p k=false→T.v (.bool false)=T.v (.bool (oJ p)):=fun h=>cM (qX hlt h).symm
 have qM:EY p k=true→X (IntKind.i64.wrap ((k:Int)+1),()):=fun h=>hX _ hlt ⟨by rw[show IntKind.i64.wrap ((k:Int)+1)=((k+1:Nat):Int) from aS _ (by omega) (by omega)],fun i h1 h2=>by
  rcases Nat.lt_or_ge i k with h3|h3
  ·exact hJ i h3 h2
  ·have:i=k:=by omega
   subst this;exact h⟩
 rw[bW hlt,i1]
 refine ⟨hne,?_⟩
 rw[bW hm1]
 have heq:(decide ((pt p k).1=(pt p ((k+1) % p.length)).1)&&(decide ((pt p k).2=(pt p ((k+1) % p.length)).2)&&true))=decide (pt p k=nx p k):=by
  rw[Bool.and_true,←Bool.decide_and]
  exact decide_eq_decide.2 Prod.ext_iff.symm
 rw[heq]
 refine bL (fun h=>bad (by unfold EY;rw[decide_eq_true h];rfl)) fun h1=>?_
 refine ⟨hne,?_⟩
 rw[i2,bW hm2]
 refine aD (s:=[(false,.int .i64)]) (jI (hn.pt _) (hn.pt _) (hn.pt _)) ?_
 have inner:(decide (aI (pt p k) (nx p k) (nR p k)=0)&&decide (0<lO (pt p k) (nx p k) (nR p k)))=false→EY p k=(List.range p.length).all fun j=>decide (j<k+2)||qN p k j:=fun h=>by
  unfold EY;rw[decide_eq_false h1,h];simp
 have tail:(decide (aI (pt p k) (nx p k) (nR p k)=0)&&decide (0<lO (pt p k) (nx p k) (nR p k)))=false→_:=fun h=>AWB (Bad:=T.v (.bool false)=T.v (.bool (oJ p))) (Good:=X (IntKind.i64.wrap ((k:Int)+1),())) hl hn hlt (fun h2=>bad (by rw[inner h,h2])) (fun h2=>qM (by rw[inner h,h2]))
 refine bL (fun h2=>?_) fun h2=>tail (by rw[show decide (aI (pt p k) (nx p k) (nR p k)=0)=false from decide_eq_false h2];rfl)
 rw[A2C (hn.pt _) (hn.pt _) (hn.pt _)]
 refine bL (fun h3=>bad ?_) fun h3=>tail (by rw[show decide (0<lO (pt p k) (nx p k) (nR p k))=false from decide_eq_false h3];simp)
 unfold EY
 rw[decide_eq_true (show aI (pt p k) (nx p k) (nR p k)=0 from h2),decide_eq_true (show 0<lO (pt p k) (nx p k) (nR p k) from h3)]
 simp
theorem AAE {p:List Pt} (h:p.length≤1000) (h2:gR p):kZ [T.sl false (List.map aA.enc p)]=some (Sh.enc [(false,.bool)] (oJ p)):=(AAD ..).trans (RX _ h h2)
def cN:Nat→(Nat→Int)→Int
 | 0,_=>0
 | n+1,f=>cN n f+f n
def CZ (p:List Pt) (i:Nat):Int:=(pt p i).1*(nx p i).2-(nx p i).1*(pt p i).2
def eZ (p:List Pt):Int:=cN p.length (CZ p)
theorem ABN {p:List Pt} (h:gR p) (i:Nat):(-1073741824≤(pt p i).1*(nx p i).2∧(pt p i).1*(nx p i).2≤1073741824)∧(-1073741824≤(nx p i).1*(pt p i).2∧(nx p i).1*(pt p i).2≤1073741824):=by
 have h1:=h.pt i
 have h2:bX (nx p i):=h.pt _
 unfold bX at h1 h2
 have b1:=CU (x:=(pt p i).1) (y:=(nx p i).2) (M:=32768) (N:=32768) (by omega) (by omega) (by omega) (by omega)
 have b2:=CU (x:=(nx p i).1) (y:=(pt p i).2) (M:=32768) (N:=32768) (by omega) (by omega) (by omega) (by omega)
 constructor<;>constructor<;>omega
theorem yS {p:List Pt} (h:gR p):∀ n:Nat,-(2147483648*(n:Int))≤cN n (CZ p)∧cN n (CZ p)≤2147483648*(n:Int)
 | 0=>by simp[cN]
 | n+1=>by
  have ih:=yS h n
  have hb:=ABN h n
  unfold cN
  have e:CZ p n=(pt p n).1*(nx p n).2-(nx p n).1*(pt p n).2:=rfl
  constructor<;>push_cast<;>omega
noncomputable def XD:Env:=Env.of []
def APU:FuncId→Hint:=fun f=>match f == 154 with|true=>⟨fun r=>match r == 3 with|true=>.inv [.val 3 false (.int .i64),.val 9 false (.int .i64)]|false=>.none,fun _ _=>none,fun _=>none⟩|false=>aV
theorem AR1:aH Tryz.prog XD:=aH.nil _
def YO (a0:List aJ) (R:T→Prop):Prop :=
 bA (Int×Int×PUnit)
 (fun (X0:Int×Int×PUnit→Prop) (s1:Int×Int×PUnit) =>
 aB (decide (s1.2.1<(↑(List.map aA.enc a0).length:Int)))
 (aO aA (List.map aA.enc a0) s1.2.1 fun (y2:aJ) =>
 bP (!decide ((↑(List.map aA.enc a0).length:Int)=0))
 (aO aA (List.map aA.enc a0)
 ((IntKind.i64.wrap (s1.2.1+1)).tmod (↑(List.map aA.enc a0).length:Int))
 fun (y3:aJ) =>
 X0
 (IntKind.i64.wrap
 (s1.1 +
 IntKind.i64.wrap
 (IntKind.i64.wrap (y2.1*y3.2)-IntKind.i64.wrap (y3.1*y2.2))),
 IntKind.i64.wrap (s1.2.1+1),())))
 (R (T.v (.int .i64 s1.1))))
 (0,0,())
theorem ALK ( a0 R):bC aY Tryz.prog XD APU 8 154 [aC false aA.li a0] R=YO a0 R:=by kernel_rfl
abbrev ML:Sh:=[(false,aA.li)]
def SQ (p:List aJ):Option T:=RV p (T.v (Value.int .i64 (eZ p)))
noncomputable def lR:List T→Option (T):=gS ML SQ
theorem ANE {a0}:lR [T.sl false (List.map aA.enc a0)]=SQ (a0):=a8 (s:=ML) rfl (a0) rfl
theorem A04 (h:∀ a0 r,SQ (a0)=some r→b8 ML (a0)→YO a0 (fun y=>y=r)):aK Tryz.prog 154 lR :=
 aR (E:=XD) (Hs:=APU) AR1 aW aX (aM rfl) 8 ⟨_,_,Tryz.func154,rfl⟩ rfl fun x r h1 h2=>by
  let a0:=x
  rw[show Sh.bN ML (a0)=[aC false aA.li a0] from rfl,ALK]
  exact h a0 r h1 h2
theorem AGE:aK Tryz.prog 154 lR:=A04 fun p r h hb=>by
 obtain ⟨hl,hn,rfl⟩:=RW h
 clear h
 unfold YO
 refine aZ p.length (fun k s=>s=(cN k (CZ p),(k:Int),())) rfl ?_
 rintro X k s hk rfl hX
 dsimp only
 refine bL (fun hlt=>?_) fun hge=>rT (by rw[List.length_map] at hge;rw[show k=p.length by omega];rfl)
 rw[List.length_map] at hlt
 have hlt:k<p.length:=by omega
 have hne:(!decide (((List.map aA.enc p).length:Int)=0))=true:=by rw[List.length_map,decide_eq_false (by omega)];rfl
 have hm1:(k+1) % p.length<p.length:=Nat.mod_lt _ (by omega)
 have i1:(IntKind.i64.wrap ((k:Int)+1)).tmod ((List.map aA.enc p).length:Int)=(((k+1) % p.length:Nat):Int):=by rw[List.length_map];exact iY (c:=1) hl (by omega) (by omega)
 rw[bW hlt,i1]
 refine ⟨hne,?_⟩
 rw[bW hm1]
 have hb1:=ABN hn k
 have hb2:=yS hn k
 have hb3:=yS hn (k+1)
 refine hX _ hlt ?_
 rw[show IntKind.i64.wrap ((k:Int)+1)=((k+1:Nat):Int) from aS _ (by omega) (by omega)]
 have e:IntKind.i64.wrap (cN k (CZ p)+IntKind.i64.wrap (IntKind.i64.wrap ((pt p k).1*(nx p k).2)-IntKind.i64.wrap ((nx p k).1*(pt p k).2)))=cN (k+1) (CZ p):=by
  rw[aS ((pt p k).1*(nx p k).2) (by omega) (by omega),aS ((nx p k).1*(pt p k).2) (by omega) (by omega),aS ((pt p k).1*(nx p k).2-(nx p k).1*(pt p k).2) (by omega) (by omega),aS _ (by omega) (by omega)]
  rfl
 rw[←e];rfl
theorem Q3 {p:List Pt} (h:p.length≤1000) (h2:gR p):lR [T.sl false (List.map aA.enc p)]=some (Sh.enc [(false,.int .i64)] (eZ p)):=(ANE ..).trans (RX _ h h2)
def dG (p:List Pt):Int:=if p.length<3 then 3 else if 32<p.length then 4 else if BH p=false then 9 else if oJ p=false∨eZ p=0 then 17 else 0
noncomputable def G1:Env:=Env.of [(152,.pure uZ),(153,.pure kZ),(154,.pure lR)]
def UI:FuncId→Hint:=fun f=>match f == 170 with|true=>⟨fun r=>match r == 2 with|true=>.inv [.val 8 false (.int .i64)]|false=>.none,fun _ _=>none,fun _=>none⟩|false=>aV
theorem ACO:aH Tryz.prog G1:=aH.cons (x:=.pure uZ) AQH (aH.cons (x:=.pure kZ) AMU (aH.cons (x:=.pure lR) AGE (aH.nil _)))
def HU (a0:List aJ) (R:T→Prop):Prop :=
 aB (decide ((↑(List.map aA.enc a0).length:Int)<3)) (R (T.v (.int .i64 3)))
 (aB (decide (32<(↑(List.map aA.enc a0).length:Int)))
 (R (T.v (.int .i64 4)))
 (bA (Int×PUnit)
 (fun (X0:Int×PUnit→Prop) (s1:Int×PUnit) =>
 aB (decide (s1.1<(↑(List.map aA.enc a0).length:Int)))
 (aO aA (List.map aA.enc a0) s1.1 fun (y2:aJ) =>
 aG [(false,Sy.bool)] (uZ [aC true aA y2]) fun (y3:Bool) =>
 aB y3
 (aB (decide (0≤s1.1)) (R (T.v (.int .i64 9)))
 (aG [(false,Sy.bool)]
 (kZ [T.sl false (List.map aA.enc a0)]) fun (y4:Bool) =>
 aB (!y4) (R (T.v (.int .i64 17)))
 (aG [(false,Sy.int IntKind.i64)]
 (lR [T.sl false (List.map aA.enc a0)]) fun (y5:Int) =>
 aB (decide (y5=0)) (R (T.v (.int .i64 17)))
 (R (T.v (.int .i64 0))))))
 (X0 (IntKind.i64.wrap (s1.1+1),())))
 (aG [(false,Sy.bool)] (kZ [T.sl false (List.map aA.enc a0)])
 fun (y6:Bool) =>
 aB (!y6) (R (T.v (.int .i64 17)))
 (aG [(false,Sy.int IntKind.i64)]
 (lR [T.sl false (List.map aA.enc a0)]) fun (y7:Int) =>
 aB (decide (y7=0)) (R (T.v (.int .i64 17)))
 (R (T.v (.int .i64 0))))))
 (0,())))
theorem YR ( a0 R):bC aY Tryz.prog G1 UI 8 128 [aC false aA.li a0] R=HU a0 R:=by kernel_rfl
abbrev AE:Sh:=[(false,aA.li)]
def DC (p:List aJ):Option T:=some (T.v (Value.int .i64 (dG p)))
noncomputable def eN:List T→Option (T):=gS AE DC
theorem AAC {a0}:eN [T.sl false (List.map aA.enc a0)]=DC (a0):=a8 (s:=AE) rfl (a0) rfl
theorem AOH (h:∀ a0 r,DC (a0)=some r→b8 AE (a0)→HU a0 (fun y=>y=r)):aK Tryz.prog 128 eN :=
 aR (E:=G1) (Hs:=UI) ACO aW aX (aM rfl) 8 ⟨_,_,Tryz.func128,rfl⟩ rfl fun x r h1 h2=>by
  let a0:=x
  rw[show Sh.bN AE (a0)=[aC false aA.li a0] from rfl,YR]
  exact h a0 r h1 h2
theorem CL:aK Tryz.prog 128 eN:=AOH fun p r h hb=>by
 cases h
 have is:∀ {n:Int},dG p=n→T.v (.int .i64 n)=T.v (.int .i64 (dG p)):=fun h=>by rw[h]
 unfold HU
 refine bL (fun h=>is (by rw[List.length_map] at h;unfold dG;rw[if_pos (by omega)])) fun h1=>?_
 refine bL (fun h=>is (by rw[List.length_map] at h h1;unfold dG;rw[if_neg (by omega),if_pos (by omega)])) fun h2=>?_
 rw[List.length_map] at h1 h2
 refine aZ p.length (fun k s=>s=((k:Int),())∧∀ i,i<k→i<p.length→bX (pt p i)) ⟨rfl,fun i h=>by omega⟩ ?_
 rintro X k s hk ⟨rfl,hJ⟩ hX
 dsimp only
 refine bL (fun hlt=>?_) fun hge=>?_
 ·rw[List.length_map] at hlt
  have hlt:k<p.length:=by omega
  rw[bW hlt]
  refine aD (s:=[(false,.bool)]) (y:=!decide (bX (pt p k))) (VN ..) ?_
  refine gP (fun hf=>?_) fun hn=>hX _ hlt ⟨by rw[show IntKind.i64.wrap ((k:Int)+1)=((k+1:Nat):Int) from aS _ (by omega) (by omega)],fun i h1 h2=>by
   rcases Nat.lt_or_ge i k with h3|h3
   ·exact hJ i h3 h2
   ·have:i=k:=by omega
    subst this;exact hn⟩
  refine bL (fun _=>is ?_) fun h=>by omega
  have:BH p=false:=by
   rw[Bool.eq_false_iff];intro h
   have:=iS.1 h _ (List.getElem_mem hlt)
   rw[←vR hlt] at this
   exact hf this
  unfold dG;rw[if_neg (by omega),if_neg (by omega),if_pos this]
 ·have hN:gR p:=fun q hq=>by
   obtain ⟨i,hi,rfl⟩:=List.mem_iff_getElem.1 hq
   rw[←vR hi]
   rw[List.length_map] at hge
   exact hJ i (by omega) hi
  have hnb:¬ BH p=false:=by rw[iS.2 hN];simp
  refine aD (s:=[(false,.bool)]) (AAE (by omega) hN) ?_
  refine dM (fun h=>is (by unfold dG;rw[if_neg (by omega),if_neg (by omega),if_neg hnb,if_pos (.inl h)])) fun hs=>?_
  refine aD (s:=[(false,.int .i64)]) (Q3 (by omega) hN) ?_
  refine bL (fun h=>is (by unfold dG;rw[if_neg (by omega),if_neg (by omega),if_neg hnb,if_pos (.inr h)])) fun ha=>is ?_
  unfold dG
  rw[if_neg (by omega),if_neg (by omega),if_neg hnb,if_neg]
  rintro (h|h)
  ·rw[show oJ p=true from hs] at h;cases h
  ·exact ha h
theorem oM (p:List Pt):eN [T.sl false (List.map aA.enc p)]=some (Sh.enc [(false,.int .i64)] (dG p)):=AAC ..
theorem dY {p:List Pt} (h:dG p=0):3≤p.length∧p.length≤32∧gR p∧oJ p=true∧eZ p≠0:=by
 unfold dG at h
 by_cases h1:p.length<3
 ·rw[if_pos h1] at h;cases h
 rw[if_neg h1] at h
 by_cases h2:32<p.length
 ·rw[if_pos h2] at h;cases h
 rw[if_neg h2] at h
 by_cases h3:BH p=false
 ·rw[if_pos h3] at h;cases h
 rw[if_neg h3] at h
 by_cases h4:oJ p=false∨eZ p=0
 ·rw[if_pos h4] at h;cases h
 refine ⟨by omega,by omega,iS.1 (by simpa using h3),by simpa using fun e=>h4 (.inl e),fun e=>h4 (.inr e)⟩
def gJ (p:List Pt):Int:=if dG p=0 then eZ p else 0
noncomputable def NM:Env:=Env.of [(128,.pure eN),(154,.pure lR)]
def AEV:FuncId→Hint:=fun _=>aV
theorem AKL:aH Tryz.prog NM:=aH.cons (x:=.pure eN) CL (aH.cons (x:=.pure lR) AGE (aH.nil _))
def OU (a0:List aJ) (R:T→Prop):Prop :=
 aG [(false,Sy.int IntKind.i64)] (eN [T.sl false (List.map aA.enc a0)])
 fun (y0:Int) =>
 aB (!decide (y0=0)) (R (T.v (.int .i64 0)))
 (aG [(false,Sy.int IntKind.i64)]
 (lR [T.sl false (List.map aA.enc a0)]) fun (y1:Int) =>
 R (T.v (.int .i64 y1)))
theorem ADN ( a0 R):bC aY Tryz.prog NM AEV 8 129 [aC false aA.li a0] R=OU a0 R:=by kernel_rfl
abbrev FV:Sh:=[(false,aA.li)]
def JY (p:List aJ):Option T:=some (T.v (Value.int .i64 (gJ p)))
noncomputable def jH:List T→Option (T):=gS FV JY
theorem AHC {a0}:jH [T.sl false (List.map aA.enc a0)]=JY (a0):=a8 (s:=FV) rfl (a0) rfl
theorem AVD (h:∀ a0 r,JY (a0)=some r→b8 FV (a0)→OU a0 (fun y=>y=r)):aK Tryz.prog 129 jH :=
 aR (E:=NM) (Hs:=AEV) AKL aW aX (aM rfl) 8 ⟨_,_,Tryz.func129,rfl⟩ rfl fun x r h1 h2=>by
  let a0:=x
  rw[show Sh.bN FV (a0)=[aC false aA.li a0] from rfl,ADN]
  exact h a0 r h1 h2
theorem VB:aK Tryz.prog 129 jH:=AVD fun p r h hb=>by
 cases h
 unfold OU
 refine aD (s:=[(false,.int .i64)]) (oM p) ?_
 refine gP (fun h=>rT (by unfold gJ;rw[if_neg h])) fun h=>?_
 obtain ⟨_,h2,h3,_⟩:=dY h
 refine aD (s:=[(false,.int .i64)]) (Q3 (by omega) h3) ?_
 exact rT (by unfold gJ;rw[if_pos h])
theorem xI (p:List Pt):jH [T.sl false (List.map aA.enc p)]=some (Sh.enc [(false,.int .i64)] (gJ p)):=AHC ..
end Go.Pv
namespace Go.Pv
open Go Go.Proofs
def EZ (p:List Pt) (q:Pt):Bool:=(List.range p.length).any fun i=>iZ (pt p i) (nx p i) q
def cO (p:List Pt) (q:Pt):Int:=if ¬ bX q∨¬ dG p=0 then -1 else if EZ p q=true then 0 else if fM p q=true then 1 else -1
theorem eK {n:Nat} {f:Nat→Bool}:(List.range n).any f=true↔∃ i,i<n∧f i=true:=by simp[List.any_eq_true,List.mem_range]
theorem CC {n:Nat} {f:Nat→Bool} (h:∀ i,i<n→f i=false):(List.range n).any f=false:=by
 rw[Bool.eq_false_iff];intro ha
 obtain ⟨i,hi,h2⟩:=eK.1 ha
 rw[h i hi] at h2;cases h2
theorem AZW {a b q:Pt} (ho:iZ a b q=false):hit a b q=(!(decide (q.2<a.2) == decide (q.2<b.2))&&(decide (0<aI a b q) == decide (a.2<b.2))):=by
 rcases Int.lt_or_le q.2 a.2 with h1|h1
 ·rcases Int.lt_or_le q.2 b.2 with h2|h2
  ·unfold hit;simp[show ¬ a.2≤q.2 by omega,show ¬ b.2≤q.2 by omega,h1,h2]
  ·have hz:aI a b q≠0:=fun h=>by
    have:=lW (a:=b) (b:=a) (q:=q) (by rw[gH a b q,h];rfl) (by omega) h2 (by omega)
    rw[MA] at this;rw[this] at ho;cases ho
   have h3:decide (0<aI a b q) = !decide (aI a b q<0):=by
    rcases Int.lt_or_le (aI a b q) 0 with h|h
    ·rw[decide_eq_true h,decide_eq_false (by omega)];rfl
    ·rw[decide_eq_false (show ¬ aI a b q<0 by omega),decide_eq_true (by omega)];rfl
   unfold hit
   rw[h3]
   simp[show ¬ a.2≤q.2 by omega,h1,h2,show ¬ q.2<b.2 by omega,show ¬ a.2<b.2 by omega]
 ·rcases Int.lt_or_le q.2 b.2 with h2|h2
  ·unfold hit;simp[h1,show ¬ q.2<a.2 by omega,h2,show ¬ b.2≤q.2 by omega,show a.2<b.2 by omega]
  ·unfold hit;simp[show ¬ q.2<a.2 by omega,show ¬ q.2<b.2 by omega]
noncomputable def NT:Env:=Env.of [(128,.pure eN),(152,.pure uZ),(176,.pure sR),(171,.pure dW)]
def AE2:FuncId→Hint:=fun f=>match f == 158 with|true=>⟨fun r=>match r == 5 with|true=>.inv [.val 5 false .bool,.val 19 false (.int .i64)]|false=>.none,fun _ _=>none,fun _=>none⟩|false=>aV
theorem AKS:aH Tryz.prog NT:=aH.cons (x:=.pure eN) CL (aH.cons (x:=.pure uZ) AQH (aH.cons (x:=.pure sR) AZC (aH.cons (x:=.pure dW) zA (aH.nil _))))
def O1 (a0:List aJ) (a1:aJ) (R:T→Prop):Prop :=
 aG [(false,Sy.bool)] (uZ [aC true aA a1]) fun (y0:Bool) =>
 aB y0 (R (T.v (.int .i64 (-1))))
 (aG [(false,Sy.int IntKind.i64)]
 (eN [T.sl false (List.map aA.enc a0)]) fun (y1:Int) =>
 aB (!decide (y1=0)) (R (T.v (.int .i64 (-1))))
 (bA (Bool×Int×PUnit)
 (fun (X2:Bool×Int×PUnit→Prop) (s3:Bool×Int×PUnit) =>
 aB (decide (s3.2.1<(↑(List.map aA.enc a0).length:Int)))
 (aO aA (List.map aA.enc a0) s3.2.1 fun (y4:aJ) =>
 bP (!decide ((↑(List.map aA.enc a0).length:Int)=0))
 (aO aA (List.map aA.enc a0)
 ((IntKind.i64.wrap (s3.2.1+1)).tmod (↑(List.map aA.enc a0).length:Int))
 fun (y5:aJ) =>
 aG [(false,Sy.bool)]
 (sR
 [aC true aA y4,aC true aA y5,
 aC true aA a1])
 fun (y6:Bool) =>
 aB y6 (R (T.v (.int .i64 0)))
 (aB (decide (decide (a1.2<y4.2)=decide (a1.2<y5.2)))
 (X2 (s3.1,IntKind.i64.wrap (s3.2.1+1),()))
 (aG [(false,Sy.int IntKind.i64)]
 (dW
 [aC true aA y4,aC true aA y5,
 aC true aA a1])
 fun (y7:Int) =>
 aB (decide (decide (0<y7)=decide (y4.2<y5.2)))
 (X2 (!s3.1,IntKind.i64.wrap (s3.2.1+1),()))
 (X2 (s3.1,IntKind.i64.wrap (s3.2.1+1),()))))))
 (aB s3.1 (R (T.v (.int .i64 1)))
 (R (T.v (.int .i64 (-1))))))
 (false,0,())))
theorem ADU ( a0 a1 R):bC aY Tryz.prog NT AE2 8 158 [aC false aA.li a0,aC true aA a1] R=O1 a0 a1 R:=by kernel_rfl
abbrev F2:Sh:=[(false,aA.li),(true,aA)]
def J4 (x:List aJ×aJ):Option T:=some (T.v (Value.int .i64 (cO x.1 x.2)))
noncomputable def jJ:List T→Option (T):=gS F2 J4
theorem AHJ {a0 a1}:jJ [T.sl false (List.map aA.enc a0),aC true aA a1]=J4 (a0,a1):=a8 (s:=F2) rfl (a0,a1) rfl
theorem AVK (h:∀ a0 a1 r,J4 (a0,a1)=some r→b8 F2 (a0,a1)→O1 a0 a1 (fun y=>y=r)):aK Tryz.prog 158 jJ :=
 aR (E:=NT) (Hs:=AE2) AKS aW aX (aM rfl) 8 ⟨_,_,Tryz.func158,rfl⟩ rfl fun x r h1 h2=>by
  obtain ⟨a0,a1⟩:=x
  rw[show Sh.bN F2 (a0,a1)=[aC false aA.li a0,aC true aA a1] from rfl,ADU]
  exact h a0 a1 r h1 h2
def eL (p q:List Pt):Bool:=(List.range p.length).any fun i=>(List.range q.length).any fun k=>bS (pt p i) (nx p i) (pt q k) (nx q k)
def lH (a0:List aJ) (a1:List aJ):List T:=[T.sl false (List.map aA.enc a0),T.sl false (List.map aA.enc a1),T.fn 156 [] []]
noncomputable def N0:Env:=Env.of [(156,.pure sU)]
def AE9:FuncId→Hint:=fun f=>match f == 155 with|true=>⟨fun r=>match r == 2 with|true=>.inv [.val 13 false (.int .i64)]|false=>match r == 5 with|true=>.inv [.val 20 false (.int .i64)]|false=>.none,fun _ _=>none,fun _=>none⟩|false=>aV
theorem AKZ:aH Tryz.prog N0:=aH.cons (x:=.pure sU) ATW (aH.nil _)
def O8 (a0:List aJ) (a1:List aJ) (R:T→Prop):Prop :=
 bA (Int×PUnit)
 (fun (X0:Int×PUnit→Prop) (s1:Int×PUnit) =>
 aB (decide (s1.1<(↑(List.map aA.enc a0).length:Int)))
 (aO aA (List.map aA.enc a0) s1.1 fun (y2:aJ) =>
 bA (Int×PUnit)
 (fun (X3:Int×PUnit→Prop) (s4:Int×PUnit) =>
 aB (decide (s4.1<(↑(List.map aA.enc a1).length:Int)))
 (aO aA (List.map aA.enc a1) s4.1 fun (y5:aJ) =>
 bP (!decide ((↑(List.map aA.enc a0).length:Int)=0))
 (aO aA (List.map aA.enc a0)
 ((IntKind.i64.wrap (s1.1+1)).tmod (↑(List.map aA.enc a0).length:Int))
 fun (y6:aJ) =>
 bP (!decide ((↑(List.map aA.enc a1).length:Int)=0))
 (aO aA (List.map aA.enc a1)
 ((IntKind.i64.wrap (s4.1+1)).tmod (↑(List.map aA.enc a1).length:Int))
 fun (y7:aJ) =>
 aG [(false,Sy.bool)]
 (sU
 [aC true aA y2,aC true aA y6,
 aC true aA y5,aC true aA y7])
 fun (y8:Bool) =>
 aB y8 (R (T.v (.bool true)))
 (X3 (IntKind.i64.wrap (s4.1+1),())))))
 (X0 (IntKind.i64.wrap (s1.1+1),())))
 (0,()))
 (R (T.v (.bool false))))
 (0,())
theorem AD1 ( a0 a1 R):bC aY Tryz.prog N0 AE9 8 155 (lH a0 a1) R=O8 a0 a1 R:=by kernel_rfl
def LI {α:Type} (p q:List Pt) (r:α):Option α:=match TW p&&TW q with
 | true=>some r
 | false=>none
theorem E1 {α:Type} {p q:List Pt} {t r:α} (h:LI p q t=some r):p.length≤1000∧gR p∧q.length≤1000∧gR q∧r=t:=by
 unfold LI at h;split at h
 ·rename_i hc
  simp only[TW,Bool.and_eq_true,decide_eq_true_eq,iS] at hc
  cases h;exact ⟨hc.1.1,hc.1.2,hc.2.1,hc.2.2,rfl⟩
 ·cases h
theorem E2 {α:Type} {p q:List Pt} (t:α) (h:p.length≤1000) (h2:gR p) (h3:q.length≤1000) (h4:gR q):LI p q t=some t:=by
 unfold LI;rw[show (TW p&&TW q)=true by simp only[TW,Bool.and_eq_true,decide_eq_true_eq,iS];exact ⟨⟨h,h2⟩,h3,h4⟩]
def J9 (x:List aJ×List aJ):Option T:=LI x.1 x.2 (T.v (.bool (eL x.1 x.2)))
theorem W3 (x y:List aJ×List aJ) (h:lH x.1 x.2=lH y.1 y.2):x=y:=by
 unfold lH at h
 obtain ⟨h1,h2⟩:=List.cons.inj h
 have h2:=(List.cons.inj h2).1
 exact Prod.ext (map_inj (Sy.dV aA) (T.sl.inj h1).2) (map_inj (Sy.dV aA) (T.sl.inj h2).2)
noncomputable def kC:List T→Option (T):=gA (fun (x:List aJ×List aJ)=>lH x.1 x.2) J9
theorem AHS (a0:List aJ) (a1:List aJ):kC (lH a0 a1)=J9 (a0,a1):=lQ (A:=(fun (x:List aJ×List aJ)=>lH x.1 x.2)) W3 (a0,a1)
theorem AVR (h:∀ (a0:List aJ) (a1:List aJ) (r:T),J9 (a0,a1)=some r→(∀ t∈lH a0 a1,Bd t)→O8 a0 a1 (fun y=>y=r)):aK Tryz.prog 155 kC :=
 fO (E:=N0) (Hs:=AE9) AKZ aW aX (aM rfl) 8 ⟨_,_,Tryz.func155,rfl⟩ fun x r h1 h2=>by
  rw[AD1]
  exact h x.1 x.2 r h1 h2
theorem VG:aK Tryz.prog 155 kC:=AVR fun p q r h hb=>by
 obtain ⟨hl,hn,hl2,hn2,rfl⟩:=E1 h
 replace hl:p.length≤1000:=hl
 replace hl2:q.length≤1000:=hl2
 clear h
 unfold O8
 refine aZ p.length (fun k s=>s=((k:Int),())∧∀ i,i<k→i<p.length→((List.range q.length).any fun k=>bS (pt p i) (nx p i) (pt q k) (nx q k))=false) ⟨rfl,fun i h=>by omega⟩ ?_
 rintro X k s hk ⟨rfl,hJ⟩ hX
 dsimp only
 refine bL (fun hlt=>?_) fun hge=>cM (Eq.symm (CC fun i hi=>hJ i (by rw[List.length_map] at hge;omega) hi))
 rw[List.length_map] at hlt
 have hlt:k<p.length:=by omega
 have hne:(!decide (((List.map aA.enc p).length:Int)=0))=true:=by rw[List.length_map,decide_eq_false (by omega)];rfl
 have hm1:(k+1) % p.length<p.length:=Nat.mod_lt _ (by omega)
 have i1:(IntKind.i64.wrap ((k:Int)+1)).tmod ((List.map aA.enc p).length:Int)=(((k+1) % p.length:Nat):Int):=by rw[List.length_map];exact iY (c:=1) hl (by omega) (by omega)
 rw[bW hlt]
 refine aZ q.length (fun j s=>s=((j:Int),())∧∀ i,i<j→i<q.length→bS (pt p k) (nx p k) (pt q i) (nx q i)=false) ⟨rfl,fun i h=>by omega⟩ ?_
 rintro Y j s hj ⟨rfl,hI⟩ hY
 dsimp only
 refine bL (fun hlj=>?_) fun hgj=>hX _ hlt ⟨by rw[show IntKind.i64.wrap ((k:Int)+1)=((k+1:Nat):Int) from aS _ (by omega) (by omega)],fun i h1 h2=>by
  rcases Nat.lt_or_ge i k with h3|h3
  ·exact hJ i h3 h2
  ·have:i=k:=by omega
   subst this;exact CC fun m hm=>hI m (by rw[List.length_map] at hgj;omega) hm⟩
 rw[List.length_map] at hlj
 have hlj:j<q.length:=by omega
 have hne2:(!decide (((List.map aA.enc q).length:Int)=0))=true:=by rw[List.length_map,decide_eq_false (by omega)];rfl
 have hm2:(j+1) % q.length<q.length:=Nat.mod_lt _ (by omega)
 have i2:(IntKind.i64.wrap ((j:Int)+1)).tmod ((List.map aA.enc q).length:Int)=(((j+1) % q.length:Nat):Int):=by rw[List.length_map];exact iY (c:=1) hl2 (by omega) (by omega)
 rw[bW hlj,i1]
 refine ⟨hne,?_⟩
 rw[bW hm1,i2]
 refine ⟨hne2,?_⟩
 rw[bW hm2]
 refine aD (s:=[(false,.bool)]) ((AHY ..).trans (EX _ (hn.pt _) (hn.pt _) (hn2.pt _) (hn2.pt _))) ?_
 refine rS (fun h=>cM (Eq.symm (eK.2 ⟨k,hlt,eK.2 ⟨j,hlj,h⟩⟩))) fun h=>hY _ hlj ⟨by rw[show IntKind.i64.wrap ((j:Int)+1)=((j+1:Nat):Int) from aS _ (by omega) (by omega)],fun i h1 h2=>by
  rcases Nat.lt_or_ge i j with h3|h3
  ·exact hI i h3 h2
  ·have:i=j:=by omega
   subst this;exact h⟩
theorem K3 {p q:List Pt} (h:p.length≤1000) (h2:gR p) (h3:q.length≤1000) (h4:gR q):kC (lH p q)=some (Sh.enc [(false,.bool)] (eL p q)):=(AHS ..).trans (E2 _ h h2 h3 h4)
theorem VD:aK Tryz.prog 158 jJ:=AVK fun p q r h hb=>by
 cases h
 have is:∀ {n:Int},cO p q=n→T.v (.int .i64 n)=T.v (.int .i64 (cO p q)):=fun h=>by rw[h]
 unfold O1
 refine aD (s:=[(false,.bool)]) (y:=!decide (bX q)) (VN ..) ?_
 refine gP (fun h=>is (by unfold cO;rw[if_pos (.inl h)])) fun hq=>?_
 refine aD (s:=[(false,.int .i64)]) (oM p) ?_
 refine gP (fun h=>is (by unfold cO;rw[if_pos (.inr h)])) fun hp=>?_
 obtain ⟨hl3,hl32,hn,_⟩:=dY hp
 have w:cO p q=if EZ p q=true then 0 else if fM p q=true then 1 else -1:=by
  unfold cO;rw[if_neg];rintro (h|h)
  ·exact h hq
  ·exact h hp
 refine aZ p.length (fun k s=>s=(fI k (fun i=>hit (pt p i) (nx p i) q),(k:Int),())∧∀ i,i<k→i<p.length→iZ (pt p i) (nx p i) q=false) ⟨rfl,fun i h=>by omega⟩ ?_
 rintro X k s hk ⟨rfl,hJ⟩ hX
 dsimp only
 refine bL (fun hlt=>?_) fun hge=>?_
 ·rw[List.length_map] at hlt
  have hlt:k<p.length:=by omega
  have hne:(!decide (((List.map aA.enc p).length:Int)=0))=true:=by rw[List.length_map,decide_eq_false (by omega)];rfl
  have hm1:(k+1) % p.length<p.length:=Nat.mod_lt _ (by omega)
  have i1:(IntKind.i64.wrap ((k:Int)+1)).tmod ((List.map aA.enc p).length:Int)=(((k+1) % p.length:Nat):Int):=by rw[List.length_map];exact iY (c:=1) (by omega) (by omega) (by omega)
  rw[bW hlt,i1]
  refine ⟨hne,?_⟩
  rw[bW hm1]
  refine aD (s:=[(false,.bool)]) (xK (hn.pt _) (hn.pt _) hq) ?_
  refine rS (fun h=>is (by rw[w,if_pos (show EZ p q=true from eK.2 ⟨k,hlt,h⟩)])) fun ho=>?_
  have ho:iZ (pt p k) (nx p k) q=false:=ho
  have hw:IntKind.i64.wrap ((k:Int)+1)=((k+1:Nat):Int):=aS _ (by omega) (by omega)
  have hh:=AZW ho
  have hJ':∀ i,i<k+1→i<p.length→iZ (pt p i) (nx p i) q=false:=fun i h1 h2=>by
   rcases Nat.lt_or_ge i k with h3|h3
   ·exact hJ i h3 h2
   ·have:i=k:=by omega
    subst this;exact ho
  have step:∀ c,hit (pt p k) (nx p k) q=c→X ((fI k (fun i=>hit (pt p i) (nx p i) q) ^^ c),IntKind.i64.wrap ((k:Int)+1),()):=fun c hc=>hX _ hlt ⟨by rw[hw,fI,hc],hJ'⟩
  refine bL (fun h=>?_) fun h=>?_
  ·have e:hit (pt p k) (nx p k) q=false:=by
    rw[hh,show decide (q.2<(pt p k).2)=decide (q.2<(nx p k).2) from h];simp
   have:=step false e
   rwa[Bool.xor_false] at this
  ·refine aD (s:=[(false,.int .i64)]) (jI (hn.pt _) (hn.pt _) hq) ?_
   have e0:hit (pt p k) (nx p k) q=(decide (0<aI (pt p k) (nx p k) q) == decide ((pt p k).2<(nx p k).2)):=by
    rw[hh,show (decide (q.2<(pt p k).2) == decide (q.2<(nx p k).2))=false from beq_eq_false_iff_ne.2 h];rfl
   refine bL (fun h2=>?_) fun h2=>?_
   ·have:=step true (by rw[e0];exact beq_iff_eq.2 h2)
    rwa[Bool.xor_true] at this
   ·have:=step false (by rw[e0];exact beq_eq_false_iff_ne.2 h2)
    rwa[Bool.xor_false] at this
 ·rw[List.length_map] at hge
  have:k=p.length:=by omega
  subst this
  have hna:EZ p q=false:=CC fun i hi=>hJ i hi hi
  refine rS (fun h=>is ?_) fun h=>is ?_
  ·rw[w,hna,if_neg (by simp),if_pos (show fM p q=true from h)]
  ·rw[w,hna,if_neg (by simp),if_neg (by rw[show fM p q=false from h];simp)]
theorem xL (p:List Pt) (q:Pt):jJ [T.sl false (List.map aA.enc p),aC true aA q]=some (Sh.enc [(false,.int .i64)] (cO p q)):=AHJ ..
def gG (p o:List Pt):Bool:=!eL p o&&p.all fun c=>decide (cO o c=1)
def fU (p q:List Pt):Bool:=!eL p q&&(decide (cO p (pt q 0)<0)&&decide (cO q (pt p 0)<0))
noncomputable def G5:Env:=Env.of [(158,.pure jJ),(155,.pure kC)]
def UM:FuncId→Hint:=fun f=>match f == 170 with|true=>⟨fun r=>match r == 2 with|true=>.inv [.val 8 false (.int .i64)]|false=>.none,fun _ _=>none,fun _=>none⟩|false=>aV
theorem ACS:aH Tryz.prog G5:=aH.cons (x:=.pure jJ) VD (aH.cons (x:=.pure kC) VG (aH.nil _))
def HY (a0:List aJ) (a1:List aJ) (R:T→Prop):Prop :=
 aG [(false,Sy.bool)]
 (kC
 [T.sl false (List.map aA.enc a0),T.sl false (List.map aA.enc a1),
 T.fn 156 [] []])
 fun (y0:Bool) =>
 aB (!y0)
 (bA (Int×PUnit)
 (fun (X1:Int×PUnit→Prop) (s2:Int×PUnit) =>
 aB (decide (s2.1<(↑(List.map aA.enc a0).length:Int)))
 (aO aA (List.map aA.enc a0) s2.1 fun (y3:aJ) =>
 aG [(false,Sy.int IntKind.i64)]
 (jJ [T.sl false (List.map aA.enc a1),aC true aA y3])
 fun (y4:Int) =>
 aB (!decide (y4=1)) (R (T.v (.bool !decide (0≤s2.1))))
 (X1 (IntKind.i64.wrap (s2.1+1),())))
 (R (T.v (.bool true))))
 (0,()))
 (R (T.v (.bool false)))
theorem YZ ( a0 a1 R):bC aY Tryz.prog G5 UM 8 130 [aC false aA.li a0,aC false aA.li a1] R=HY a0 a1 R:=by kernel_rfl
abbrev AI:Sh:=[(false,aA.li),(false,aA.li)]
def DG (x:List aJ×List aJ):Option T:=LI x.1 x.2 (T.v (.bool (gG x.1 x.2)))
noncomputable def mP:List T→Option (T):=gS AI DG
theorem AAH {a0 a1}:mP [T.sl false (List.map aA.enc a0),T.sl false (List.map aA.enc a1)]=DG (a0,a1):=a8 (s:=AI) rfl (a0,a1) rfl
theorem AOL (h:∀ a0 a1 r,DG (a0,a1)=some r→b8 AI (a0,a1)→HY a0 a1 (fun y=>y=r)):aK Tryz.prog 130 mP :=
 aR (E:=G5) (Hs:=UM) ACS aW aX (aM rfl) 8 ⟨_,_,Tryz.func130,rfl⟩ rfl fun x r h1 h2=>by
  obtain ⟨a0,a1⟩:=x
  rw[show Sh.bN AI (a0,a1)=[aC false aA.li a0,aC false aA.li a1] from rfl,YZ]
  exact h a0 a1 r h1 h2
theorem AMW:aK Tryz.prog 130 mP:=AOL fun p o r h hb=>by
 obtain ⟨hl,hn,hl2,hn2,rfl⟩:=E1 h
 replace hl:p.length≤1000:=hl
 clear h
 unfold HY
 refine aD (s:=[(false,.bool)]) (K3 hl hn hl2 hn2) ?_
 refine dM (fun he=>?_) fun he=>cM (by unfold gG;rw[show eL p o=true from he];rfl)
 have w:gG p o=p.all fun c=>decide (cO o c=1):=by unfold gG;rw[show eL p o=false from he];rfl
 refine aZ p.length (fun k s=>s=((k:Int),())∧p.all (fun c=>decide (cO o c=1))=(p.drop k).all fun c=>decide (cO o c=1)) ⟨rfl,by rw[List.drop_zero]⟩ ?_
 rintro X k s hk ⟨rfl,hJ⟩ hX
 dsimp only
 refine bL (fun hlt=>?_) fun hge=>cM ?_
 ·rw[List.length_map] at hlt
  have hlt:k<p.length:=by omega
  rw[List.drop_eq_getElem_cons hlt,List.all_cons] at hJ
  rw[aT (r:=aA) hlt]
  refine aD (s:=[(false,.int .i64)]) (xL o p[k]) ?_
  refine gP (fun h=>cM ?_) fun h=>hX _ hlt ⟨by rw[show IntKind.i64.wrap ((k:Int)+1)=((k+1:Nat):Int) from aS _ (by omega) (by omega)],by rw[hJ,decide_eq_true (show cO o p[k]=1 from h),Bool.true_and]⟩
  rw[w,hJ,decide_eq_false (show ¬ cO o p[k]=1 from h),decide_eq_true (show 0≤(k:Int) by omega)];rfl
 ·rw[List.length_map] at hge
  have:k=p.length:=by omega
  subst this
  rw[w,hJ,List.drop_length];rfl
theorem AAI {p q:List Pt} (h:p.length≤1000) (h2:gR p) (h3:q.length≤1000) (h4:gR q):mP [T.sl false (List.map aA.enc p),T.sl false (List.map aA.enc q)]=some (Sh.enc [(false,.bool)] (gG p q)):=(AAH ..).trans (E2 _ h h2 h3 h4)
def AOU (p q:List Pt) (t:T):Option T:=match p,q with
 | _::_,_::_=>LI p q t
 | _,_=>none
noncomputable def NU:Env:=Env.of [(158,.pure jJ),(155,.pure kC)]
def AE3:FuncId→Hint:=fun _=>aV
theorem AKT:aH Tryz.prog NU:=aH.cons (x:=.pure jJ) VD (aH.cons (x:=.pure kC) VG (aH.nil _))
def O2 (a0:List aJ) (a1:List aJ) (R:T→Prop):Prop :=
 aG [(false,Sy.bool)]
 (kC
 [T.sl false (List.map aA.enc a0),T.sl false (List.map aA.enc a1),
 T.fn 156 [] []])
 fun (y0:Bool) =>
 aB (!y0)
 (aO aA (List.map aA.enc a1) 0 fun (y1:aJ) =>
 aG [(false,Sy.int IntKind.i64)]
 (jJ [T.sl false (List.map aA.enc a0),aC true aA y1])
 fun (y2:Int) =>
 aB (decide (y2<0))
 (aO aA (List.map aA.enc a0) 0 fun (y3:aJ) =>
 aG [(false,Sy.int IntKind.i64)]
 (jJ [T.sl false (List.map aA.enc a1),aC true aA y3])
 fun (y4:Int)=>R (T.v (.bool (decide (y4<0)))))
 (R (T.v (.bool false))))
 (R (T.v (.bool false)))
theorem ADV ( a0 a1 R):bC aY Tryz.prog NU AE3 8 131 [aC false aA.li a0,aC false aA.li a1] R=O2 a0 a1 R:=by kernel_rfl
abbrev F3:Sh:=[(false,aA.li),(false,aA.li)]
def uH (x:List aJ×List aJ):Option T:=AOU x.1 x.2 (T.v (.bool (fU x.1 x.2)))
noncomputable def pU:List T→Option (T):=gS F3 uH
theorem AHK {a0 a1}:pU [T.sl false (List.map aA.enc a0),T.sl false (List.map aA.enc a1)]=uH (a0,a1):=a8 (s:=F3) rfl (a0,a1) rfl
theorem AVL (h:∀ a0 a1 r,uH (a0,a1)=some r→b8 F3 (a0,a1)→O2 a0 a1 (fun y=>y=r)):aK Tryz.prog 131 pU :=
 aR (E:=NU) (Hs:=AE3) AKT aW aX (aM rfl) 8 ⟨_,_,Tryz.func131,rfl⟩ rfl fun x r h1 h2=>by
  obtain ⟨a0,a1⟩:=x
  rw[show Sh.bN F3 (a0,a1)=[aC false aA.li a0,aC false aA.li a1] from rfl,ADV]
  exact h a0 a1 r h1 h2
theorem ATS:aK Tryz.prog 131 pU:=AVL fun p q r h hb=>by
 unfold uH AOU at h
 split at h
 ·rename_i e1 e2
  obtain ⟨hl,hn,hl2,hn2,rfl⟩:=E1 h
  have k1:0<p.length:=by rw[show p=_ from e1];simp
  have k2:0<q.length:=by rw[show q=_ from e2];simp
  clear h
  unfold O2
  refine aD (s:=[(false,.bool)]) (K3 hl hn hl2 hn2) ?_
  refine dM (fun he=>?_) fun he=>cM (by unfold fU;rw[show eL p q=true from he];rfl)
  have w:fU p q=(decide (cO p (pt q 0)<0)&&decide (cO q (pt p 0)<0)):=by unfold fU;rw[show eL p q=false from he];rfl
  rw[show (0:Int)=((0:Nat):Int) from rfl,bW k2]
  refine aD (s:=[(false,.int .i64)]) (xL p (pt q 0)) ?_
  refine bL (fun h=>?_) fun h=>cM (by rw[w,decide_eq_false (show ¬ cO p (pt q 0)<0 from h)];rfl)
  rw[bW k1]
  refine aD (s:=[(false,.int .i64)]) (xL q (pt p 0)) ?_
  exact cM (by rw[w,decide_eq_true (show cO p (pt q 0)<0 from h)];rfl)
 ·cases h
theorem AHL {p q:List Pt} (k1:0<p.length) (k2:0<q.length) (h:p.length≤1000) (h2:gR p) (h3:q.length≤1000) (h4:gR q):pU [T.sl false (List.map aA.enc p),T.sl false (List.map aA.enc q)]=some (Sh.enc [(false,.bool)] (fU p q)):=by
 refine (AHK ..).trans ?_
 unfold uH AOU
 cases p with
 | nil=>simp at k1
 | cons a p=>cases q with
  | nil=>simp at k2
  | cons b q=>exact E2 _ h h2 h3 h4
end Go.Pv
namespace Go.Pv
open Go Go.Proofs
theorem hO {r:Sy} {l:List r.den} (f:Nat→Int) (hl:l.length≤1000000) {Body:(Int×PUnit→Prop)→Int×PUnit→r.den→Prop} {Exit:Prop}
  (hbody:∀ (X:Int×PUnit→Prop) (k:Nat) (hk:k<l.length),(∀ j,j<k→f j=0)→(f k=0→X (((k+1:Nat):Int),()))→(f k≠0→bD f (List.range l.length)=f k)→Body X ((k:Int),()) l[k]) (hexit:bD f (List.range l.length)=0→Exit) :
  bA (Int×PUnit) (fun (X:Int×PUnit→Prop) (s:Int×PUnit)=>aB (decide (s.1<((List.map r.enc l).length:Int))) (aO r (List.map r.enc l) s.1 fun y=>Body X s y) Exit) (0,()):=by
 refine aZ l.length (fun k s=>s=((k:Int),())∧bD f (List.range l.length)=bD f (List.range' k (l.length-k))∧∀ j,j<k→f j=0) ⟨rfl,by rw[List.range_eq_range'];rfl,fun j h=>by omega⟩ ?_
 rintro X k s hk ⟨rfl,he,hp⟩ hX
 dsimp only
 refine bL (fun hlt=>?_) fun hge=>?_
 ·rw[List.length_map] at hlt
  have hlt:k<l.length:=by omega
  rw[aT hlt]
  obtain ⟨m,hm⟩:∃ m,l.length-k=m+1:=⟨l.length-k-1,by omega⟩
  rw[hm,List.range'_succ,bD] at he
  refine hbody X k hlt hp (fun h0=>?_) fun h0=>by rw[he,if_neg h0]
  rw[if_pos h0] at he
  exact hX _ hlt ⟨rfl,by rw[he];congr 2;omega,fun j hj=>by
   rcases Nat.lt_or_ge j k with h|h
   ·exact hp j h
   ·have:j=k:=by omega
    subst this;exact h0⟩
 ·rw[List.length_map] at hge
  have:l.length-k=0:=by omega
  rw[this] at he
  exact hexit he
def mA (s:eQ) (i:Nat):Int:=if ¬ dG (s.2.getD i [])=0 then dG (s.2.getD i []) else if 0≤gJ (s.2.getD i [])∨gG (s.2.getD i []) s.1=false then 17 else if ((List.range i).all fun k=>fU (s.2.getD i []) (s.2.getD k []))=false then 17 else 0
def gM (s:eQ):Int:=if 8<s.2.length then 12 else if ¬ dG s.1=0 then dG s.1 else if gJ s.1≤0 then 17 else bD (mA s) (List.range s.2.length)
theorem jD {α:Type} {f:α→Int}:∀ {l:List α},bD f l=0→∀ a∈l,f a=0
 | a::l,h,b,hb=>by
  unfold bD at h
  by_cases ha:f a=0
  ·rw[if_pos ha] at h
   rcases List.mem_cons.1 hb with rfl|hb
   ·exact ha
   ·exact jD h b hb
  ·rw[if_neg ha] at h;exact absurd h ha
 | [],_,b,hb=>by cases hb
theorem AVY (l:List (List aJ)):kR 1 (List.map aA.li.enc l)=true:=by cases l<;>rfl
noncomputable def NW:Env:=Env.of [(128,.pure eN),(129,.pure jH),(130,.pure mP),(131,.pure pU)]
def AE5:FuncId→Hint:=fun f=>match f == 104 with|true=>⟨fun r=>match r == 9 with|true=>.inv [.val 26 false (.int .i64)]|false=>match r == 17 with|true=>.inv [.val 51 false (.int .i64)]|false=>.none,fun _ _=>none,fun _=>none⟩|false=>aV
theorem AKV:aH Tryz.prog NW:=aH.cons (x:=.pure eN) CL (aH.cons (x:=.pure jH) VB (aH.cons (x:=.pure mP) AMW (aH.cons (x:=.pure pU) ATS (aH.nil _))))
def O4 (a0:eQ) (R:T→Prop):Prop :=
 aB (decide (8<(↑(List.map aA.li.enc a0.2).length:Int)))
 (R (T.v (.int .i64 12)))
 (aG [(false,Sy.int IntKind.i64)]
 (eN [T.sl false (List.map aA.enc a0.1)]) fun (y0:Int) =>
 aB (!decide (y0=0)) (R (T.v (.int .i64 y0)))
 (aG [(false,Sy.int IntKind.i64)]
 (jH [T.sl false (List.map aA.enc a0.1)]) fun (y1:Int) =>
 aB (decide (y1≤0)) (R (T.v (.int .i64 17)))
 (bA (Int×PUnit)
 (fun (X2:Int×PUnit→Prop) (s3:Int×PUnit) =>
 aB (decide (s3.1<(↑(List.map aA.li.enc a0.2).length:Int)))
 (aO aA.li (List.map aA.li.enc a0.2) s3.1
 fun (y4:List aJ) =>
 aG [(false,Sy.int IntKind.i64)]
 (eN [T.sl false (List.map aA.enc y4)]) fun (y5:Int) =>
 aB (!decide (y5=0)) (R (T.v (.int .i64 y5)))
 (aG [(false,Sy.int IntKind.i64)]
 (jH [T.sl false (List.map aA.enc y4)]) fun (y6:Int) =>
 aB (decide (0≤y6)) (R (T.v (.int .i64 17)))
 (aG [(false,Sy.bool)]
 (mP
 [T.sl false (List.map aA.enc y4),
 T.sl false (List.map aA.enc a0.1)])
 fun (y7:Bool) =>
 aB (!y7) (R (T.v (.int .i64 17)))
 (bP
 (kR 1 (List.map aA.li.enc a0.2) &&
 (decide (0≤s3.1) &&
 decide (Int.toNat s3.1≤(List.map aA.li.enc a0.2).length)) &&
 true)
 (bA (Int×PUnit)
 (fun (X8:Int×PUnit→Prop) (s9:Int×PUnit) =>
 aB
 (decide
 (s9.1 <
 (↑(List.drop 0
 (List.take (Int.toNat s3.1)
 (List.map aA.li.enc a0.2))).length :
 Int)))
 (aO aA.li
 (List.drop 0
 (List.take (Int.toNat s3.1) (List.map aA.li.enc a0.2)))
 s9.1 fun (y10:List aJ) =>
 aG [(false,Sy.bool)]
 (pU
 [T.sl false (List.map aA.enc y4),
 T.sl false (List.map aA.enc y10)])
 fun (y11:Bool) =>
 aB (!y11) (R (T.v (.int .i64 17)))
 (X8 (IntKind.i64.wrap (s9.1+1),())))
 (X2 (IntKind.i64.wrap (s3.1+1),())))
 (0,()))))))
 (R (T.v (.int .i64 0))))
 (0,()))))
theorem ADX ( a0 R):bC aY Tryz.prog NW AE5 8 104 [aC true cF a0] R=O4 a0 R:=by kernel_rfl
abbrev F5:Sh:=[(true,cF)]
def J6 (s:eQ):Option T:=some (T.v (Value.int .i64 (gM s)))
noncomputable def gB:List T→Option (T):=gS F5 J6
theorem AHO {a0}:gB [aC true cF a0]=J6 (a0):=a8 (s:=F5) rfl (a0) rfl
theorem AVN (h:∀ a0 r,J6 (a0)=some r→b8 F5 (a0)→O4 a0 (fun y=>y=r)):aK Tryz.prog 104 gB :=
 aR (E:=NW) (Hs:=AE5) AKV aW aX (aM rfl) 8 ⟨_,_,Tryz.func104,rfl⟩ rfl fun x r h1 h2=>by
  let a0:=x
  rw[show Sh.bN F5 (a0)=[aC true cF a0] from rfl,ADX]
  exact h a0 r h1 h2
theorem VE:aK Tryz.prog 104 gB:=AVN fun s r h hb=>by
 cases h
 have is:∀ {n:Int},gM s=n→T.v (.int .i64 n)=T.v (.int .i64 (gM s)):=fun h=>by rw[h]
 unfold O4
 refine bL (fun h=>is (by rw[List.length_map] at h;unfold gM;rw[if_pos (by omega)])) fun h1=>?_
 rw[List.length_map] at h1
 refine aD (s:=[(false,.int .i64)]) (oM s.1) ?_
 refine gP (fun h=>is (by unfold gM;rw[if_neg (by omega),if_pos h])) fun h2=>?_
 refine aD (s:=[(false,.int .i64)]) (xI s.1) ?_
 refine bL (fun h=>is (by unfold gM;rw[if_neg (by omega),if_neg (by simpa using h2),if_pos h])) fun h3=>?_
 have w:gM s=bD (mA s) (List.range s.2.length):=by unfold gM;rw[if_neg (by omega),if_neg (by simpa using h2),if_neg h3]
 obtain ⟨ho3,ho32,hoN,_⟩:=dY h2
 refine hO (r:=aA.li) (mA s) (by show s.2.length≤1000000;omega) (fun X k hk hprev hok hbad=>?_) fun h0=>is (w.trans h0)
 have hk:k<s.2.length:=hk
 have hg:s.2.getD k []=s.2[k]:=by rw[List.getD_eq_getElem?_getD,List.getElem?_eq_getElem hk];rfl
 have bad:∀ {n:Int},n≠0→mA s k=n→T.v (.int .i64 n)=T.v (.int .i64 (gM s)):=fun hn h=>is (w.trans ((hbad (by rw[h];exact hn)).trans h))
 have hE:mA s k=if ¬ dG s.2[k]=0 then dG s.2[k] else if 0≤gJ s.2[k]∨gG s.2[k] s.1=false then 17 else if ((List.range k).all fun j=>fU s.2[k] (s.2.getD j []))=false then 17 else 0:=by unfold mA;rw[hg]
 show aG [(false,Sy.int IntKind.i64)] (eN [T.sl false (List.map aA.enc s.2[k])]) _
 refine aD (s:=[(false,.int .i64)]) (oM s.2[k]) ?_
 refine gP (fun h=>bad h (by rw[hE,if_pos h])) fun p1=>?_
 refine aD (s:=[(false,.int .i64)]) (xI s.2[k]) ?_
 refine bL (fun h=>bad (by decide) (by rw[hE,if_neg (by simpa using p1),if_pos (.inl h)])) fun p2=>?_
 obtain ⟨hp3,hp32,hpN,_⟩:=dY p1
 refine aD (s:=[(false,.bool)]) (AAI (by omega) hpN (by omega) hoN) ?_
 refine dM (fun h=>bad (by decide) (by rw[hE,if_neg (by simpa using p1),if_pos (.inr h)])) fun p3=>?_
 have hE2:mA s k=if ((List.range k).all fun j=>fU s.2[k] (s.2.getD j []))=false then 17 else 0:=by
  rw[hE,if_neg (by simpa using p1),if_neg]
  rintro (h|h)
  ·exact p2 h
  ·rw[show gG s.2[k] s.1=true from p3] at h;cases h
 refine ⟨by rw[AVY,List.length_map];simp;omega,?_⟩
 have htk:List.drop 0 (List.take (Int.toNat (k:Int)) (List.map aA.li.enc s.2))=List.map aA.li.enc (s.2.take k):=by rw[List.drop_zero,Int.toNat_natCast,List.map_take]
 dsimp only
 rw[htk]
 have ht:(s.2.take k).length=k:=by rw[List.length_take];omega
 refine aZ k (fun j s'=>s'=((j:Int),())∧∀ i,i<j→fU s.2[k] (s.2.getD i [])=true) ⟨rfl,fun i h=>by omega⟩ ?_
 rintro Y j s' hj ⟨rfl,hJ⟩ hY
 dsimp only
 refine bL (fun hlt=>?_) fun hge=>?_
 ·rw[List.length_map,ht] at hlt
  have hlt:j<k:=by omega
  rw[aT (r:=aA.li) (show j<(s.2.take k).length by omega)]
  have hgj:s.2.getD j []=s.2[j]:=by rw[List.getD_eq_getElem?_getD,List.getElem?_eq_getElem (by omega)];rfl
  have hgt:(s.2.take k)[j]'(by omega)=s.2[j]:=by simp
  rw[hgt]
  have hj0:dG s.2[j]=0:=by
   have h0:=hprev j hlt
   unfold mA at h0
   rw[hgj] at h0
   refine Classical.byContradiction fun hc=>?_
   rw[if_pos hc] at h0
   exact hc h0
  obtain ⟨hq3,hq32,hqN,_⟩:=dY hj0
  refine aD (s:=[(false,.bool)]) (AHL (by omega) (by omega) (by omega) hpN (by omega) hqN) ?_
  refine dM (fun h=>bad (by decide) ?_) fun h=>hY _ hlt ⟨by rw[show IntKind.i64.wrap ((j:Int)+1)=((j+1:Nat):Int) from aS _ (by omega) (by omega)],fun i hi=>by
   rcases Nat.lt_or_ge i j with h3|h3
   ·exact hJ i h3
   ·have:i=j:=by omega
    subst this;rw[hgj];exact h⟩
  rw[hE2,if_pos (qX hlt (by rw[hgj];exact h))]
 ·rw[List.length_map,ht] at hge
  have:j=k:=by omega
  subst this
  rw[show IntKind.i64.wrap ((j:Int)+1)=((j+1:Nat):Int) from aS _ (by omega) (by omega)]
  refine hok ?_
  rw[hE2,if_neg]
  rw[cG.2 hJ];simp
theorem K1 (s:eQ):gB [aC true cF s]=some (Sh.enc [(false,.int .i64)] (gM s)):=AHO ..
noncomputable def NY:Env:=Env.of []
def AE7:FuncId→Hint:=fun _=>aV
theorem AKX:aH Tryz.prog NY:=aH.nil _
def O6 (a0:eQ) (R:T→Prop):Prop :=
 aB (List.map aA.li.enc a0.2).isEmpty
 (R (T.sl false [[T.sl false (List.map aA.enc a0.1)]]))
 (bP
 (gU 1 (List.map aA.li.enc a0.2) &&
 decide ((1+(List.map aA.li.enc a0.2).length)*24≤140737488355328) &&
 decide (1+(List.map aA.li.enc a0.2).length≤140737488355328))
 (R
 (T.sl false
 ([T.sl false (List.map aA.enc a0.1)] ::
 (List.map aA.li.enc a0.2)))))
theorem ADZ ( a0 R):bC aY Tryz.prog NY AE7 8 139 [aC true cF a0] R=O6 a0 R:=by kernel_rfl
abbrev F7:Sh:=[(true,cF)]
abbrev A1M:Sh:=[(false,aA.li.li)]
def uI (s:eQ):Option T:=match decide (s.2.length≤1000) with
 | true=>some (Sh.enc A1M (s.1::s.2))
 | false=>none
noncomputable def sS:List T→Option (T):=gS F7 uI
theorem AHQ {a0}:sS [aC true cF a0]=uI (a0):=a8 (s:=F7) rfl (a0) rfl
theorem AVP (h:∀ a0 r,uI (a0)=some r→b8 F7 (a0)→O6 a0 (fun y=>y=r)):aK Tryz.prog 139 sS :=
 aR (E:=NY) (Hs:=AE7) AKX aW aX (aM rfl) 8 ⟨_,_,Tryz.func139,rfl⟩ rfl fun x r h1 h2=>by
  let a0:=x
  rw[show Sh.bN F7 (a0)=[aC true cF a0] from rfl,ADZ]
  exact h a0 r h1 h2
theorem ATU:aK Tryz.prog 139 sS:=AVP fun s r h hb=>by
 unfold uI at h
 split at h
 ·rename_i hc
  have hc:s.2.length≤1000:=of_decide_eq_true hc
  cases h
  obtain ⟨o,hs⟩:=s
  unfold O6
  cases hs with
  | nil=>exact (rfl:T.sl false [[T.sl false (List.map aA.enc o)]]=_)
  | cons a l =>
   show bP _ _
   refine ⟨?_,rfl⟩
   simp only[Bool.and_eq_true,decide_eq_true_eq,List.length_map]
   have hc:(a::l).length≤1000:=hc
   exact ⟨⟨pE (.li aA) (a::l),by omega⟩,by omega⟩
 ·cases h
def AWJ (l:List (List Pt)):Int:=cN l.length fun i=>gJ (l.getD i [])
def p8 (s:eQ):Int:=if gM s=0 then AWJ (s.1::s.2) else 0
theorem PU (p:List Pt):-68719476736≤gJ p∧gJ p≤68719476736:=by
 unfold gJ
 by_cases h:dG p=0
 ·rw[if_pos h]
  obtain ⟨_,h2,h3,_⟩:=dY h
  have:=yS h3 p.length
  unfold eZ
  omega
 ·rw[if_neg h];omega
theorem MV (l:List (List Pt)):∀ n:Nat,-(68719476736*(n:Int))≤cN n (fun i=>gJ (l.getD i []))∧cN n (fun i=>gJ (l.getD i []))≤68719476736*(n:Int)
 | 0=>by simp[cN]
 | n+1=>by
  have ih:=MV l n
  have hb:=PU (l.getD n [])
  unfold cN
  constructor<;>push_cast<;>omega
noncomputable def NV:Env:=Env.of [(104,.pure gB),(139,.pure sS),(129,.pure jH)]
def AE4:FuncId→Hint:=fun f=>match f == 109 with|true=>⟨fun r=>match r == 5 with|true=>.inv [.val 3 false (.int .i64),.val 12 false (.int .i64)]|false=>.none,fun _ _=>none,fun _=>none⟩|false=>aV
theorem AKU:aH Tryz.prog NV:=aH.cons (x:=.pure gB) VE (aH.cons (x:=.pure sS) ATU (aH.cons (x:=.pure jH) VB (aH.nil _)))
def O3 (a0:eQ) (R:T→Prop):Prop :=
 aG [(false,Sy.int IntKind.i64)] (gB [aC true cF a0]) fun (y0:Int) =>
 aB (!decide (y0=0)) (R (T.v (.int .i64 0)))
 (aG [(false,aA.li.li)] (sS [aC true cF a0])
 fun (y1:List (List aJ)) =>
 bA (Int×Int×PUnit)
 (fun (X2:Int×Int×PUnit→Prop) (s3:Int×Int×PUnit) =>
 aB (decide (s3.2.1<(↑(List.map aA.li.enc y1).length:Int)))
 (aO aA.li (List.map aA.li.enc y1) s3.2.1 fun (y4:List aJ) =>
 aG [(false,Sy.int IntKind.i64)]
 (jH [T.sl false (List.map aA.enc y4)]) fun (y5:Int) =>
 X2 (IntKind.i64.wrap (s3.1+y5),IntKind.i64.wrap (s3.2.1+1),()))
 (R (T.v (.int .i64 s3.1))))
 (0,0,()))
theorem ADW ( a0 R):bC aY Tryz.prog NV AE4 8 109 [aC true cF a0] R=O3 a0 R:=by kernel_rfl
abbrev F4:Sh:=[(true,cF)]
def J5 (s:eQ):Option T:=some (T.v (Value.int .i64 (p8 s)))
noncomputable def pV:List T→Option (T):=gS F4 J5
theorem AHM {a0}:pV [aC true cF a0]=J5 (a0):=a8 (s:=F4) rfl (a0) rfl
theorem AVM (h:∀ a0 r,J5 (a0)=some r→b8 F4 (a0)→O3 a0 (fun y=>y=r)):aK Tryz.prog 109 pV :=
 aR (E:=NV) (Hs:=AE4) AKU aW aX (aM rfl) 8 ⟨_,_,Tryz.func109,rfl⟩ rfl fun x r h1 h2=>by
  let a0:=x
  rw[show Sh.bN F4 (a0)=[aC true cF a0] from rfl,ADW]
  exact h a0 r h1 h2
theorem ATT:aK Tryz.prog 109 pV:=AVM fun s r h hb=>by
 cases h
 have is:∀ {n:Int},p8 s=n→T.v (.int .i64 n)=T.v (.int .i64 (p8 s)):=fun h=>by rw[h]
 unfold O3
 refine aD (s:=[(false,.int .i64)]) (K1 s) ?_
 refine gP (fun h=>is (by unfold p8;rw[if_neg h])) fun h=>?_
 have h8:s.2.length≤8:=by
  refine Classical.byContradiction fun hc=>?_
  unfold gM at h
  rw[if_pos (by omega)] at h;cases h
 refine aD (s:=[(false,.li (.li aA))]) (y:=(s.1::s.2:List (List aJ))) ((AHQ ..).trans (by unfold uI;rw[decide_eq_true (by omega)])) ?_
 have w:p8 s=AWJ (s.1::s.2):=by unfold p8;rw[if_pos h]
 have hlen:(s.1::s.2).length≤9:=by simp;omega
 generalize s.1::s.2=l at w hlen
 refine aZ l.length (fun k t=>t=(cN k (fun i=>gJ (l.getD i [])),(k:Int),())) rfl ?_
 rintro X k t hk rfl hX
 dsimp only
 refine bL (fun hlt=>?_) fun hge=>is (by rw[List.length_map] at hge;rw[w,show k=l.length by omega];rfl)
 rw[List.length_map] at hlt
 have hlt:k<l.length:=by omega
 rw[aT (r:=aA.li) hlt]
 have hg:l.getD k []=l[k]:=by rw[List.getD_eq_getElem?_getD,List.getElem?_eq_getElem hlt];rfl
 refine aD (s:=[(false,.int .i64)]) (xI l[k]) ?_
 refine hX _ hlt ?_
 have b1:=MV l k
 have b2:=PU l[k]
 rw[show IntKind.i64.wrap ((k:Int)+1)=((k+1:Nat):Int) from aS _ (by omega) (by omega),aS _ (by omega) (by omega),cN,hg]
theorem AHN (s:eQ):pV [aC true cF s]=some (Sh.enc [(false,.int .i64)] (p8 s)):=AHM ..
theorem A43 (s:eQ):-618475290624≤p8 s∧p8 s≤618475290624:=by
 unfold p8
 by_cases h:gM s=0
 ·rw[if_pos h]
  have h8:s.2.length≤8:=by
   refine Classical.byContradiction fun hc=>?_
   unfold gM at h
   rw[if_pos (by omega)] at h;cases h
  have:=MV (s.1::s.2) (s.1::s.2).length
  unfold AWJ
  simp only[List.length_cons] at this ⊢
  omega
 ·rw[if_neg h];omega
end Go.Pv
namespace Go.Pv
open Go Go.Proofs
noncomputable def HC:Env:=Env.of []
def UT:FuncId→Hint:=fun f=>match f == 132 with|true=>⟨fun r=>match r == 2 with|true=>.KI 4|false=>.none,fun _ _=>none,fun _=>none⟩|false=>aV
theorem ACZ:aH Tryz.prog HC:=aH.nil _
def H7 (a0:AFH) (a1:Int) (R:T→Prop):Prop :=
 aB (decide (a0.1<IntKind.i64.wrap (0-a1))) (R (T.v (.bool false)))
 (aB (decide (a1<a0.1)) (R (T.v (.bool false)))
 (aB (decide (a0.2.1<IntKind.i64.wrap (0-a1))) (R (T.v (.bool false)))
 (aB (decide (a1<a0.2.1)) (R (T.v (.bool false)))
 (aB (decide (a0.2.2<IntKind.i64.wrap (0-a1))) (R (T.v (.bool false)))
 (aB (decide (a1<a0.2.2)) (R (T.v (.bool false)))
 (R (T.v (.bool true))))))))
theorem Y6 ( a0 a1 R):bC aY Tryz.prog HC UT 8 132 [aC true KJ a0,aC false (Sy.int IntKind.i64) a1] R=H7 a0 a1 R:=by kernel_rfl
abbrev AP:Sh:=[(true,KJ),(false,(Sy.int IntKind.i64))]
def iN (v:AFH):Bool:=decide (-524288≤v.1)&&decide (v.1≤524288)&&(decide (-524288≤v.2.1)&&decide (v.2.1≤524288))&&(decide (-524288≤v.2.2)&&decide (v.2.2≤524288))
def wD (x:AFH×Int):Option T:=match decide (x.2=524288) with
 | true=>some (T.v (.bool (iN x.1)))
 | false=>none
noncomputable def o7:List T→Option (T):=gS AP wD
theorem AAQ {a0 a1}:o7 [aC true KJ a0,T.v (.int .i64 a1)]=wD (a0,a1):=a8 (s:=AP) rfl (a0,a1) rfl
theorem AOS (h:∀ a0 a1 r,wD (a0,a1)=some r→b8 AP (a0,a1)→H7 a0 a1 (fun y=>y=r)):aK Tryz.prog 132 o7 :=
 aR (E:=HC) (Hs:=UT) ACZ aW aX (aM rfl) 8 ⟨_,_,Tryz.func132,rfl⟩ rfl fun x r h1 h2=>by
  obtain ⟨a0,a1⟩:=x
  rw[show Sh.bN AP (a0,a1)=[aC true KJ a0,aC false (Sy.int IntKind.i64) a1] from rfl,Y6]
  exact h a0 a1 r h1 h2
theorem AM2:aK Tryz.prog 132 o7:=AOS fun v n r h hb=>by
 unfold wD at h
 split at h
 ·rename_i hn
  have hn:n=524288:=of_decide_eq_true hn
  subst hn
  cases h
  unfold H7
  rw[show IntKind.i64.wrap (0-524288) = -524288 from rfl]
  have no:∀ {P:Prop},(¬ (-524288≤v.1∧v.1≤524288∧-524288≤v.2.1∧v.2.1≤524288∧-524288≤v.2.2∧v.2.2≤524288))→T.v (.bool false)=T.v (.bool (iN v)):=fun h=>cM (Eq.symm (by
   rw[Bool.eq_false_iff];intro h2;simp only[iN,Bool.and_eq_true,decide_eq_true_eq] at h2;omega))
  refine bL (fun h=>no (P:=True) (by omega)) fun h1=>bL (fun h=>no (P:=True) (by omega)) fun h2=>bL (fun h=>no (P:=True) (by omega)) fun h3=>bL (fun h=>no (P:=True) (by omega)) fun h4=>bL (fun h=>no (P:=True) (by omega)) fun h5=>bL (fun h=>no (P:=True) (by omega)) fun h6=>cM ?_
  simp only[iN]
  rw[decide_eq_true (by omega),decide_eq_true (by omega),decide_eq_true (by omega),decide_eq_true (by omega),decide_eq_true (by omega),decide_eq_true (by omega)];rfl
 ·cases h
def AIN (t:Int):Int:=if t<0∨24≤t then 0 else t
noncomputable def HB:Env:=Env.of []
def US:FuncId→Hint:=fun _=>aV
theorem ACY:aH Tryz.prog HB:=aH.nil _
def H6 (a0:Int) (R:T→Prop):Prop :=
 aB (decide (a0<0)) (R (T.v (.int .i64 0)))
 (aB (decide (24≤a0)) (R (T.v (.int .i64 0)))
 (R (T.v (.int .i64 a0))))
theorem Y5 ( a0 R):bC aY Tryz.prog HB US 8 133 [aC false (Sy.int IntKind.i64) a0] R=H6 a0 R:=by kernel_rfl
abbrev AO:Sh:=[(false,(Sy.int IntKind.i64))]
def DK (t:Int):Option T:=some (T.v (Value.int .i64 (AIN t)))
noncomputable def o6:List T→Option (T):=gS AO DK
theorem AAP {a0}:o6 [T.v (.int .i64 a0)]=DK (a0):=a8 (s:=AO) rfl (a0) rfl
theorem AOR (h:∀ a0 r,DK (a0)=some r→b8 AO (a0)→H6 a0 (fun y=>y=r)):aK Tryz.prog 133 o6 :=
 aR (E:=HB) (Hs:=US) ACY aW aX (aM rfl) 8 ⟨_,_,Tryz.func133,rfl⟩ rfl fun x r h1 h2=>by
  let a0:=x
  rw[show Sh.bN AO (a0)=[aC false (Sy.int IntKind.i64) a0] from rfl,Y5]
  exact h a0 r h1 h2
theorem AM1:aK Tryz.prog 133 o6:=AOR fun t r h hb=>by
 cases h
 unfold H6
 exact bL (fun h=>rT (by unfold AIN;rw[if_pos (.inl h)])) fun h1=>bL (fun h=>rT (by unfold AIN;rw[if_pos (.inr h)])) fun h2=>rT (by unfold AIN;rw[if_neg (by omega)])
def iU (p:uL):Bool:=iN p.1&&decide (p.2=AIN p.2)
noncomputable def N6:Env:=Env.of [(132,.pure o7),(133,.pure o6)]
def AFF:FuncId→Hint:=fun _=>aV
theorem AK5:aH Tryz.prog N6:=aH.cons (x:=.pure o7) AM2 (aH.cons (x:=.pure o6) AM1 (aH.nil _))
def PE (a0:uL) (R:T→Prop):Prop :=
 aG [(false,Sy.bool)]
 (o7 [aC true KJ a0.1,T.v (.int .i64 524288)])
 fun (y0:Bool) =>
 aB y0
 (aG [(false,Sy.int IntKind.i64)]
 (o6 [T.v (.int .i64 a0.2)]) fun (y1:Int) =>
 R (T.v (.bool (decide (a0.2=y1)))))
 (R (T.v (.bool false)))
theorem AD7 ( a0 R):bC aY Tryz.prog N6 AFF 8 106 [aC true cW a0] R=PE a0 R:=by kernel_rfl
abbrev GD:Sh:=[(true,cW)]
def KG (p:uL):Option T:=some (T.v (.bool (iU p)))
noncomputable def b9:List T→Option (T):=gS GD KG
theorem K5 {a0}:b9 [aC true cW a0]=KG (a0):=a8 (s:=GD) rfl (a0) rfl
theorem AVX (h:∀ a0 r,KG (a0)=some r→b8 GD (a0)→PE a0 (fun y=>y=r)):aK Tryz.prog 106 b9 :=
 aR (E:=N6) (Hs:=AFF) AK5 aW aX (aM rfl) 8 ⟨_,_,Tryz.func106,rfl⟩ rfl fun x r h1 h2=>by
  let a0:=x
  rw[show Sh.bN GD (a0)=[aC true cW a0] from rfl,AD7]
  exact h a0 r h1 h2
theorem ATZ:aK Tryz.prog 106 b9:=AVX fun p r h hb=>by
 cases h
 unfold PE
 refine aD (s:=[(false,.bool)]) (y:=iN p.1) (AAQ ..) ?_
 refine rS (fun h=>?_) fun h=>cM (by unfold iU;rw[h];rfl)
 refine aD (s:=[(false,.int .i64)]) (y:=AIN p.2) (AAP ..) ?_
 exact cM (by unfold iU;rw[h];rfl)
def oC (l:List Int) (i:Nat):Int:=if ¬ (1≤l.getD i 0∧l.getD i 0≤120) then 9 else if 0<i∧l.getD i 0≤l.getD (i-1) 0 then 11 else 0
def fB (g:cS):Int:=if isName g.1=false then 6 else if ¬ (1000≤g.2.1∧g.2.1≤20000∧100≤g.2.2.1∧g.2.2.1≤1500) then 9 else if g.2.2.2.length=0 then 3 else if 16<g.2.2.2.length then 4 else bD (oC g.2.2.2) (List.range g.2.2.2.length)
def wB (s:bU):Int:=if isName s.1=false then 6 else if ¬ (1≤s.2.1∧s.2.1≤1000000∧1≤s.2.2.1∧s.2.2.1≤2000∧100≤s.2.2.2∧s.2.2.2≤32768) then 9 else 0
theorem K7 (s:ByteArray) (K:Bool→Prop):aG [(false,Sy.bool)] (eR [T.v (.string s)]) K=K (isName s):=by
 rw[show eR [T.v (.string s)]=AV s from xG]
 exact TY _ K
noncomputable def NI:Env:=Env.of [(22,.pure eR)]
def AER:FuncId→Hint:=fun f=>match f == 54 with|true=>⟨fun r=>match r == 10 with|true=>.inv [.val 34 false (.int .i64)]|false=>.none,fun _ _=>none,fun _=>none⟩|false=>aV
theorem AKH:aH Tryz.prog NI:=aH.cons (x:=.pure eR) yY (aH.nil _)
def OP (a0:cS) (R:T→Prop):Prop :=
 aG [(false,Sy.bool)] (eR [T.v (.string a0.1)]) fun (y0:Bool) =>
 aB (!y0) (R (T.v (.int .i64 6)))
 (aB (decide (1000≤a0.2.1))
 (aB (!decide (a0.2.1≤20000)) (R (T.v (.int .i64 9)))
 (aB (decide (100≤a0.2.2.1))
 (aB (!decide (a0.2.2.1≤1500)) (R (T.v (.int .i64 9)))
 (aB (decide ((↑(List.map (Sy.int IntKind.i64).enc a0.2.2.2).length:Int)=0))
 (R (T.v (.int .i64 3)))
 (aB (decide (16<(↑(List.map (Sy.int IntKind.i64).enc a0.2.2.2).length:Int)))
 (R (T.v (.int .i64 4)))
 (bA (Int×PUnit)
 (fun (X1:Int×PUnit→Prop) (s2:Int×PUnit) =>
 aB
 (decide (s2.1<(↑(List.map (Sy.int IntKind.i64).enc a0.2.2.2).length:Int)))
 (aO (Sy.int IntKind.i64)
 (List.map (Sy.int IntKind.i64).enc a0.2.2.2) s2.1 fun (y3:Int) =>
 aB (decide (1≤y3))
 (aB (!decide (y3≤120)) (R (T.v (.int .i64 9)))
 (aB (decide (0<s2.1))
 (aO (Sy.int IntKind.i64)
 (List.map (Sy.int IntKind.i64).enc a0.2.2.2)
 (IntKind.i64.wrap (s2.1-1)) fun (y4:Int) =>
 aB (decide (y3≤y4)) (R (T.v (.int .i64 11)))
 (X1 (IntKind.i64.wrap (s2.1+1),())))
 (X1 (IntKind.i64.wrap (s2.1+1),()))))
 (R (T.v (.int .i64 9))))
 (R (T.v (.int .i64 0))))
 (0,())))))
 (R (T.v (.int .i64 9)))))
 (R (T.v (.int .i64 9))))
theorem ADJ ( a0 R):bC aY Tryz.prog NI AER 8 54 [aC true bH a0] R=OP a0 R:=by kernel_rfl
abbrev FQ:Sh:=[(true,bH)]
def JW (g:cS):Option T:=some (T.v (Value.int .i64 (fB g)))
noncomputable def sQ:List T→Option (T):=gS FQ JW
theorem AHA {a0}:sQ [aC true bH a0]=JW (a0):=a8 (s:=FQ) rfl (a0) rfl
theorem AU9 (h:∀ a0 r,JW (a0)=some r→b8 FQ (a0)→OP a0 (fun y=>y=r)):aK Tryz.prog 54 sQ :=
 aR (E:=NI) (Hs:=AER) AKH aW aX (aM rfl) 8 ⟨_,_,Tryz.func54,rfl⟩ rfl fun x r h1 h2=>by
  let a0:=x
  rw[show Sh.bN FQ (a0)=[aC true bH a0] from rfl,ADJ]
  exact h a0 r h1 h2
theorem gO {α:Type} {l:List α} {i:Nat} {d:α} (h:i<l.length):l.getD i d=l[i]:=by rw[List.getD_eq_getElem?_getD,List.getElem?_eq_getElem h];rfl
theorem zP {r:Sy} {l:List r.den} {k:Nat} (hk:k<l.length) (h0:0<k) (hl:l.length≤1000000) (K:r.den→Prop):aO r (List.map r.enc l) (IntKind.i64.wrap ((k:Int)-1)) K=K (l[k-1]'(by omega)):=by
 rw[show IntKind.i64.wrap ((k:Int)-1)=((k-1:Nat):Int) by rw[aS _ (by omega) (by omega)];omega]
 exact aT (by omega) K
theorem rV {k:Nat} (h:k<1000000):IntKind.i64.wrap ((k:Int)+1)=((k+1:Nat):Int):=aS _ (by omega) (by omega)
theorem ATO:aK Tryz.prog 54 sQ:=AU9 fun g r h hb=>by
 cases h
 have is:∀ {n:Int},fB g=n→T.v (.int .i64 n)=T.v (.int .i64 (fB g)):=fun h=>by rw[h]
 unfold OP
 rw[K7]
 refine dM (fun h=>is (by unfold fB;rw[if_pos h])) fun hn=>?_
 have hn':¬ isName g.1=false:=by rw[hn];simp
 have r9:¬ (1000≤g.2.1∧g.2.1≤20000∧100≤g.2.2.1∧g.2.2.1≤1500)→T.v (.int .i64 9)=T.v (.int .i64 (fB g)):=fun h=>is (by unfold fB;rw[if_neg hn',if_pos h])
 refine bL (fun h1=>gP (fun h=>r9 (by omega)) fun h2=>bL (fun h3=>gP (fun h=>r9 (by omega)) fun h4=>?_) fun h=>r9 (by omega)) fun h=>r9 (by omega)
 have hr:¬ ¬ (1000≤g.2.1∧g.2.1≤20000∧100≤g.2.2.1∧g.2.2.1≤1500):=by omega
 refine bL (fun h=>is (by rw[List.length_map] at h;unfold fB;rw[if_neg hn',if_neg hr,if_pos (by omega)])) fun h5=>?_
 refine bL (fun h=>is (by rw[List.length_map] at h h5;unfold fB;rw[if_neg hn',if_neg hr,if_neg (by omega),if_pos (by omega)])) fun h6=>?_
 rw[List.length_map] at h5 h6
 have w:fB g=bD (oC g.2.2.2) (List.range g.2.2.2.length):=by unfold fB;rw[if_neg hn',if_neg hr,if_neg (by omega),if_neg (by omega)]
 refine hO (r:=.int .i64) (oC g.2.2.2) (by omega) (fun X k hk hprev hok hbad=>?_) fun h0=>is (w.trans h0)
 have hk:k<g.2.2.2.length:=hk
 have bad:∀ {n:Int},n≠0→oC g.2.2.2 k=n→T.v (.int .i64 n)=T.v (.int .i64 (fB g)):=fun hn h=>is (w.trans ((hbad (by rw[h];exact hn)).trans h))
 have hE:oC g.2.2.2 k=if ¬ (1≤g.2.2.2[k]∧g.2.2.2[k]≤120) then 9 else if 0<k∧g.2.2.2[k]≤g.2.2.2.getD (k-1) 0 then 11 else 0:=by unfold oC;rw[gO hk]
 dsimp only
 rw[rV (by omega)]
 refine bL (fun p1=>gP (fun h=>bad (by decide) (by rw[hE,if_pos (by omega)])) fun p2=>?_) fun h=>bad (by decide) (by rw[hE,if_pos (by omega)])
 refine bL (fun p3=>?_) fun p3=>hok (by rw[hE,if_neg (by omega),if_neg (by omega)])
 have k0:0<k:=by omega
 rw[zP (r:=.int .i64) hk k0 (by omega)]
 have hg1:g.2.2.2.getD (k-1) 0=g.2.2.2[k-1]'(by omega):=gO (by omega)
 exact bL (fun h=>bad (by decide) (by rw[hE,if_neg (by omega),hg1,if_pos ⟨k0,h⟩])) fun h=>hok (by rw[hE,if_neg (by omega),hg1,if_neg (fun hc=>h hc.2)])
noncomputable def BZ:Env:=Env.of [(22,.pure eR)]
def PL:FuncId→Hint:=fun _=>aV
theorem XP:aH Tryz.prog BZ:=aH.cons (x:=.pure eR) yY (aH.nil _)
def B8 (a0:bU) (R:T→Prop):Prop :=
 aG [(false,Sy.bool)] (eR [T.v (.string a0.1)]) fun (y0:Bool) =>
 aB (!y0) (R (T.v (.int .i64 6)))
 (aB (decide (1≤a0.2.1))
 (aB (!decide (a0.2.1≤1000000)) (R (T.v (.int .i64 9)))
 (aB (decide (1≤a0.2.2.1))
 (aB (!decide (a0.2.2.1≤2000)) (R (T.v (.int .i64 9)))
 (aB (decide (100≤a0.2.2.2))
 (aB (!decide (a0.2.2.2≤32768)) (R (T.v (.int .i64 9)))
 (R (T.v (.int .i64 0))))
 (R (T.v (.int .i64 9)))))
 (R (T.v (.int .i64 9)))))
 (R (T.v (.int .i64 9))))
theorem TF ( a0 R):bC aY Tryz.prog BZ PL 8 55 [aC true a7 a0] R=B8 a0 R:=by kernel_rfl
abbrev v8:Sh:=[(true,a7)]
def yH (s:bU):Option T:=some (T.v (Value.int .i64 (wB s)))
noncomputable def mN:List T→Option (T):=gS v8 yH
theorem TQ {a0}:mN [aC true a7 a0]=yH (a0):=a8 (s:=v8) rfl (a0) rfl
theorem AIV (h:∀ a0 r,yH (a0)=some r→b8 v8 (a0)→B8 a0 (fun y=>y=r)):aK Tryz.prog 55 mN :=
 aR (E:=BZ) (Hs:=PL) XP aW aX (aM rfl) 8 ⟨_,_,Tryz.func55,rfl⟩ rfl fun x r h1 h2=>by
  let a0:=x
  rw[show Sh.bN v8 (a0)=[aC true a7 a0] from rfl,TF]
  exact h a0 r h1 h2
theorem AGD:aK Tryz.prog 55 mN:=AIV fun s r h hb=>by
 cases h
 have is:∀ {n:Int},wB s=n→T.v (.int .i64 n)=T.v (.int .i64 (wB s)):=fun h=>by rw[h]
 unfold B8
 rw[K7]
 refine dM (fun h=>is (by unfold wB;rw[if_pos h])) fun hn=>?_
 have hn':¬ isName s.1=false:=by rw[hn];simp
 have r9:¬ (1≤s.2.1∧s.2.1≤1000000∧1≤s.2.2.1∧s.2.2.1≤2000∧100≤s.2.2.2∧s.2.2.2≤32768)→T.v (.int .i64 9)=T.v (.int .i64 (wB s)):=fun h=>is (by unfold wB;rw[if_neg hn',if_pos h])
 refine bL (fun h1=>gP (fun h=>r9 (by omega)) fun h2=>bL (fun h3=>gP (fun h=>r9 (by omega)) fun h4=>bL (fun h5=>gP (fun h=>r9 (by omega)) fun h6=>is ?_) fun h=>r9 (by omega)) fun h=>r9 (by omega)) fun h=>r9 (by omega)
 unfold wB;rw[if_neg hn',if_neg (by omega)]
def dO:cS:=(⟨#[]⟩,0,0,[])
def BJ (a b:ByteArray):Bool:=dR a b||decide (a=b)
def jL (m:aN) (i:Nat):Int:=if ¬ fB (m.1.getD i dO)=0 then fB (m.1.getD i dO) else if 0<i∧BJ (m.1.getD i dO).1 (m.1.getD (i-1) dO).1=true then 11 else 0
def SC (m:aN) (i:Nat):Int:=if ¬ wB (m.2.getD i nQ)=0 then wB (m.2.getD i nQ) else if 0<i∧BJ (m.2.getD i nQ).1 (m.2.getD (i-1) nQ).1=true then 11 else 0
def kQ (m:aN):Int:=if 16<m.1.length∨32<m.2.length then 4 else if ¬ bD (jL m) (List.range m.1.length)=0 then bD (jL m) (List.range m.1.length) else bD (SC m) (List.range m.2.length)
noncomputable def ND:Env:=Env.of [(54,.pure sQ),(55,.pure mN)]
def AEN:FuncId→Hint:=fun f=>match f == 21 with|true=>⟨fun r=>match r == 4 with|true=>.inv [.val 22 false (.int .i64)]|false=>match r == 13 with|true=>.inv [.val 50 false (.int .i64)]|false=>.none,fun _ _=>none,fun _=>none⟩|false=>aV
theorem AKD:aH Tryz.prog ND:=aH.cons (x:=.pure sQ) ATO (aH.cons (x:=.pure mN) AGD (aH.nil _))
def OL (a0:aN) (R:T→Prop):Prop :=
 aB (decide (16<(↑(List.map bH.enc a0.1).length:Int)))
 (R (T.v (.int .i64 4)))
 (aB (decide (32<(↑(List.map a7.enc a0.2).length:Int)))
 (R (T.v (.int .i64 4)))
 (bA (Int×PUnit)
 (fun (X0:Int×PUnit→Prop) (s1:Int×PUnit) =>
 aB (decide (s1.1<(↑(List.map bH.enc a0.1).length:Int)))
 (aO bH (List.map bH.enc a0.1) s1.1 fun (y2:cS) =>
 aG [(false,Sy.int IntKind.i64)] (sQ [aC true bH y2])
 fun (y3:Int) =>
 aB (!decide (y3=0)) (R (T.v (.int .i64 y3)))
 (aB (decide (0<s1.1))
 (aO bH (List.map bH.enc a0.1) (IntKind.i64.wrap (s1.1-1))
 fun (y4:cS) =>
 aB (dR y2.1 y4.1||decide (y2.1=y4.1))
 (R (T.v (.int .i64 11))) (X0 (IntKind.i64.wrap (s1.1+1),())))
 (X0 (IntKind.i64.wrap (s1.1+1),()))))
 (bA (Int×PUnit)
 (fun (X5:Int×PUnit→Prop) (s6:Int×PUnit) =>
 aB (decide (s6.1<(↑(List.map a7.enc a0.2).length:Int)))
 (aO a7 (List.map a7.enc a0.2) s6.1 fun (y7:bU) =>
 aG [(false,Sy.int IntKind.i64)]
 (mN [aC true a7 y7]) fun (y8:Int) =>
 aB (!decide (y8=0)) (R (T.v (.int .i64 y8)))
 (aB (decide (0<s6.1))
 (aO a7 (List.map a7.enc a0.2)
 (IntKind.i64.wrap (s6.1-1)) fun (y9:bU) =>
 aB (dR y7.1 y9.1||decide (y7.1=y9.1))
 (R (T.v (.int .i64 11)))
 (X5 (IntKind.i64.wrap (s6.1+1),())))
 (X5 (IntKind.i64.wrap (s6.1+1),()))))
 (R (T.v (.int .i64 0))))
 (0,())))
 (0,())))
theorem ADF ( a0 R):bC aY Tryz.prog ND AEN 8 21 [aC true aE a0] R=OL a0 R:=by kernel_rfl
abbrev FM:Sh:=[(true,aE)]
def JS (m:aN):Option T:=some (T.v (Value.int .i64 (kQ m)))
noncomputable def sO:List T→Option (T):=gS FM JS
theorem AG4 {a0}:sO [aC true aE a0]=JS (a0):=a8 (s:=FM) rfl (a0) rfl
theorem AU5 (h:∀ a0 r,JS (a0)=some r→b8 FM (a0)→OL a0 (fun y=>y=r)):aK Tryz.prog 21 sO :=
 aR (E:=ND) (Hs:=AEN) AKD aW aX (aM rfl) 8 ⟨_,_,Tryz.func21,rfl⟩ rfl fun x r h1 h2=>by
  let a0:=x
  rw[show Sh.bN FM (a0)=[aC true aE a0] from rfl,ADF]
  exact h a0 r h1 h2
theorem ATK:aK Tryz.prog 21 sO:=AU5 fun m r h hb=>by
 cases h
 have is:∀ {n:Int},kQ m=n→T.v (.int .i64 n)=T.v (.int .i64 (kQ m)):=fun h=>by rw[h]
 unfold OL
 refine bL (fun h=>is (by rw[List.length_map] at h;unfold kQ;rw[if_pos (by omega)])) fun h1=>?_
 refine bL (fun h=>is (by rw[List.length_map] at h;unfold kQ;rw[if_pos (by omega)])) fun h2=>?_
 rw[List.length_map] at h1 h2
 refine hO (r:=bH) (jL m) (by show m.1.length≤1000000;omega) (fun X k hk hprev hok hbad=>?_) fun h0=>?_
 ·have hk:k<m.1.length:=hk
  have bad:∀ {n:Int},n≠0→jL m k=n→T.v (.int .i64 n)=T.v (.int .i64 (kQ m)):=fun hn h=>is (by
   have hb:=(hbad (by rw[h];exact hn)).trans h
   unfold kQ;rw[if_neg (by omega),if_pos (by rw[hb];exact hn),hb])
  have hE:jL m k=if ¬ fB m.1[k]=0 then fB m.1[k] else if 0<k∧BJ m.1[k].1 (m.1.getD (k-1) dO).1=true then 11 else 0:=by unfold jL;rw[gO hk]
  dsimp only
  rw[rV (by omega)]
  refine aD (s:=[(false,.int .i64)]) (y:=fB m.1[k]) (AHA ..) ?_
  refine gP (fun h=>bad h (by rw[hE,if_pos h])) fun p1=>?_
  refine bL (fun p3=>?_) fun p3=>hok (by rw[hE,if_neg (fun h=>h p1),if_neg (by omega)])
  have k0:0<k:=by omega
  rw[zP (r:=bH) hk k0 (by show m.1.length≤1000000;omega)]
  have hg1:m.1.getD (k-1) dO=m.1[k-1]'(by omega):=gO (by omega)
  exact rS (fun h=>bad (by decide) (by rw[hE,if_neg (fun h=>h p1),hg1,if_pos ⟨k0,h⟩])) fun h=>hok (by rw[hE,if_neg (fun h=>h p1),hg1,if_neg (fun hc=>by rw[show BJ m.1[k].1 (m.1[k-1]'(by omega)).1=false from h] at hc;cases hc.2)])
 ·have w:kQ m=bD (SC m) (List.range m.2.length):=by unfold kQ;rw[if_neg (by omega),if_neg (fun h=>h h0)]
  refine hO (r:=a7) (SC m) (by show m.2.length≤1000000;omega) (fun X k hk hprev hok hbad=>?_) fun h0=>is (w.trans h0)
  have hk:k<m.2.length:=hk
  have bad:∀ {n:Int},n≠0→SC m k=n→T.v (.int .i64 n)=T.v (.int .i64 (kQ m)):=fun hn h=>is (w.trans ((hbad (by rw[h];exact hn)).trans h))
  have hE:SC m k=if ¬ wB m.2[k]=0 then wB m.2[k] else if 0<k∧BJ m.2[k].1 (m.2.getD (k-1) nQ).1=true then 11 else 0:=by unfold SC;rw[gO hk]
  dsimp only
  rw[rV (by omega)]
  refine aD (s:=[(false,.int .i64)]) (y:=wB m.2[k]) (TQ ..) ?_
  refine gP (fun h=>bad h (by rw[hE,if_pos h])) fun p1=>?_
  refine bL (fun p3=>?_) fun p3=>hok (by rw[hE,if_neg (fun h=>h p1),if_neg (by omega)])
  have k0:0<k:=by omega
  rw[zP (r:=a7) hk k0 (by show m.2.length≤1000000;omega)]
  have hg1:m.2.getD (k-1) nQ=m.2[k-1]'(by omega):=gO (by omega)
  exact rS (fun h=>bad (by decide) (by rw[hE,if_neg (fun h=>h p1),hg1,if_pos ⟨k0,h⟩])) fun h=>hok (by rw[hE,if_neg (fun h=>h p1),hg1,if_neg (fun hc=>by rw[show BJ m.2[k].1 (m.2[k-1]'(by omega)).1=false from h] at hc;cases hc.2)])
def cJ (m:aN) (n:ByteArray):Option cS:=m.1.find? fun g=>decide (g.1=n)
def BK (m:aN):Bool:=decide (m.1.length≤1000)&&decide (m.2.length≤1000)&&m.1.all fun g=>decide (g.2.2.2.length≤1000)
def xZ {α:Type} (m:aN) (r:α):Option α:=match BK m with
 | true=>some r
 | false=>none
theorem pZ {α:Type} {m:aN} {t r:α} (h:xZ m t=some r):BK m=true∧r=t:=by
 unfold xZ at h;split at h
 ·rename_i hc;cases h;exact ⟨hc,rfl⟩
 ·cases h
theorem p0 {α:Type} {m:aN} (t:α) (h:BK m=true):xZ m t=some t:=by unfold xZ;rw[h]
theorem ASU:AWM Tryz.prog 136 1 8:=⟨fun R=>by kernel_rfl,fun fl R=>by kernel_rfl,fun fl a rows R=>by kernel_rfl⟩
noncomputable def xF:List T→Option T:=gS [(false,.li (.int .i64))] (yD (.int .i64) 8)
theorem AGR {u0}:xF [T.sl false (List.map (Sy.enc (.int .i64)) u0)]=yD (.int .i64) 8 u0:=a8 (s:=[(false,.li (.int .i64))]) rfl u0 rfl
theorem ATD:aK Tryz.prog 136 xF:=ASV aW aX ⟨_,_,Tryz.func136,rfl⟩ ASU
noncomputable def NB:Env:=Env.of [(136,.pure xF)]
def AEL:FuncId→Hint:=fun f=>match f == 134 with|true=>⟨fun r=>match r == 2 with|true=>.inv [.val 8 false (.int .i64)]|false=>.none,fun _ _=>none,fun _=>none⟩|false=>aV
theorem AKB:aH Tryz.prog NB:=aH.cons (x:=.pure xF) ATD (aH.nil _)
def OJ (a0:aN) (a1:ByteArray) (R:T→Prop):Prop :=
 bA (Int×PUnit)
 (fun (X0:Int×PUnit→Prop) (s1:Int×PUnit) =>
 aB (decide (s1.1<(↑(List.map bH.enc a0.1).length:Int)))
 (aO bH (List.map bH.enc a0.1) s1.1 fun (y2:cS) =>
 aB (decide (y2.1=a1))
 (aB (decide (s1.1<0))
 (R
 (T.cR
 [T.agg
 [T.v (.string { data:=#[] }),T.v (.int .i64 0),
 T.v (.int .i64 0),T.sl false []],
 T.v (.bool false)]))
 (aO bH (List.map bH.enc a0.1) s1.1 fun (y3:cS) =>
 aG [(false,(Sy.int IntKind.i64).li)]
 (xF [T.sl false (List.map (Sy.int IntKind.i64).enc y3.2.2.2)])
 fun (y4:List Int) =>
 R
 (T.cR
 [T.agg
 [T.v (.string y3.1),T.v (.int .i64 y3.2.1),
 T.v (.int .i64 y3.2.2.1),
 T.sl false (List.map (Sy.int IntKind.i64).enc y4)],
 T.v (.bool true)])))
 (X0 (IntKind.i64.wrap (s1.1+1),())))
 (R
 (T.cR
 [T.agg
 [T.v (.string { data:=#[] }),T.v (.int .i64 0),
 T.v (.int .i64 0),T.sl false []],
 T.v (.bool false)])))
 (0,())
theorem ADD ( a0 a1 R):bC aY Tryz.prog NB AEL 8 107 [aC true aE a0,aC false Sy.str a1] R=OJ a0 a1 R:=by kernel_rfl
abbrev FK:Sh:=[(true,aE),(false,Sy.str)]
def JQ (x:aN×ByteArray):Option T:=xZ x.1 (Sh.enc [(true,bH),(false,.bool)] (found dO (cJ x.1 x.2)))
noncomputable def eF:List T→Option (T):=gS FK JQ
theorem AG1 {a0 a1}:eF [aC true aE a0,T.v (.string a1)]=JQ (a0,a1):=a8 (s:=FK) rfl (a0,a1) rfl
theorem AU3 (h:∀ a0 a1 r,JQ (a0,a1)=some r→b8 FK (a0,a1)→OJ a0 a1 (fun y=>y=r)):aK Tryz.prog 107 eF :=
 aR (E:=NB) (Hs:=AEL) AKB aW aX (aM rfl) 8 ⟨_,_,Tryz.func107,rfl⟩ rfl fun x r h1 h2=>by
  obtain ⟨a0,a1⟩:=x
  rw[show Sh.bN FK (a0,a1)=[aC true aE a0,aC false Sy.str a1] from rfl,ADD]
  exact h a0 a1 r h1 h2
theorem IQ:aK Tryz.prog 107 eF:=AU3 fun m n r h hb=>by
 obtain ⟨hok,rfl⟩:=pZ h
 clear h
 simp only[BK,Bool.and_eq_true,decide_eq_true_eq] at hok
 unfold OJ
 refine aZ m.1.length (fun k s=>s=((k:Int),())∧(m.1.drop k).find? (fun s=>decide (s.1=n))=cJ m n) ⟨rfl,rfl⟩ ?_
 rintro X k s hk ⟨rfl,hf⟩ hX
 dsimp only
 refine bL (fun hlt=>?_) fun hge=>?_
 ·rw[List.length_map] at hlt
  have hlt:k<m.1.length:=by omega
  rw[mH hlt] at hf
  rw[aT (r:=bH) hlt]
  refine bL (fun hc=>?_) fun hc=>?_
  ·rw[if_pos (decide_eq_true hc)] at hf
   refine bL (fun h=>by omega) fun _=>?_
   rw[aT (r:=bH) hlt]
   have hg:m.1[k].2.2.2.length≤1000:=by
    have:=List.all_eq_true.1 hok.2 _ (List.getElem_mem hlt)
    exact of_decide_eq_true this
   refine aD (s:=[(false,.li (.int .i64))]) (y:=m.1[k].2.2.2) ?_ ?_
   ·rw[AGR]
    unfold yD MS
    rw[show (decide (m.1[k].2.2.2.length*8≤140737488355328)&&decide (m.1[k].2.2.2.length≤140737488355328))=true by simp only[Bool.and_eq_true,decide_eq_true_eq];omega]
    rfl
   ·show _=Sh.enc [(true,bH),(false,.bool)] (found dO (cJ m n))
    rw[←hf];rfl
  ·rw[if_neg (by simpa using hc)] at hf
   exact hX _ hlt ⟨by rw[rV (by omega)],hf⟩
 ·rw[List.length_map] at hge
  have:k=m.1.length:=by omega
  subst this
  rw[List.drop_length] at hf
  show _=Sh.enc [(true,bH),(false,.bool)] (found dO (cJ m n))
  rw[←hf];rfl
def iB (m:aN) (n:ByteArray) (t:Int):Bool:=match cJ m n with
 | some g=>g.2.2.2.any fun x=>decide (t=x)
 | none=>false
noncomputable def GS:Env:=Env.of [(107,.pure eF)]
def UA:FuncId→Hint:=fun f=>match f == 169 with|true=>⟨fun r=>match r == 2 with|true=>.inv [.val 8 false (.int .i64)]|false=>.none,fun _ _=>none,fun _=>none⟩|false=>aV
theorem ACF:aH Tryz.prog GS:=aH.cons (x:=.pure eF) IQ (aH.nil _)
def HM (a0:aN) (a1:ByteArray) (a2:Int) (R:T→Prop):Prop :=
 aG [(true,bH),(false,Sy.bool)]
 (eF [aC true aE a0,T.v (.string a1)])
 fun (y0:cS×Bool) =>
 aB y0.2
 (bA (Int×PUnit)
 (fun (X1:Int×PUnit→Prop) (s2:Int×PUnit) =>
 aB (decide (s2.1<(↑(List.map (Sy.int IntKind.i64).enc y0.1.2.2.2).length:Int)))
 (aO (Sy.int IntKind.i64) (List.map (Sy.int IntKind.i64).enc y0.1.2.2.2)
 s2.1 fun (y3:Int) =>
 aB (decide (a2=y3)) (R (T.v (.bool (decide (0≤s2.1)))))
 (X1 (IntKind.i64.wrap (s2.1+1),())))
 (R (T.v (.bool false))))
 (0,()))
 (R (T.v (.bool false)))
theorem YF ( a0 a1 a2 R):bC aY Tryz.prog GS UA 8 127 [aC true aE a0,aC false Sy.str a1,
 aC false (Sy.int IntKind.i64) a2] R=HM a0 a1 a2 R:=by kernel_rfl
abbrev zY:Sh:=[(true,aE),(false,Sy.str),(false,(Sy.int IntKind.i64))]
def C5 (x:aN×ByteArray×Int):Option T:=xZ x.1 (T.v (.bool (iB x.1 x.2.1 x.2.2)))
noncomputable def iP:List T→Option (T):=gS zY C5
theorem Z5 {a0 a1 a2}:iP [aC true aE a0,T.v (.string a1),T.v (.int .i64 a2)]=C5 (a0,a1,a2):=a8 (s:=zY) rfl (a0,a1,a2) rfl
theorem AN9 (h:∀ a0 a1 a2 r,C5 (a0,a1,a2)=some r→b8 zY (a0,a1,a2)→HM a0 a1 a2 (fun y=>y=r)):aK Tryz.prog 127 iP :=
 aR (E:=GS) (Hs:=UA) ACF aW aX (aM rfl) 8 ⟨_,_,Tryz.func127,rfl⟩ rfl fun x r h1 h2=>by
  obtain ⟨a0,a1,a2⟩:=x
  rw[show Sh.bN zY (a0,a1,a2)=[aC true aE a0,aC false Sy.str a1,
 aC false (Sy.int IntKind.i64) a2] from rfl,YF]
  exact h a0 a1 a2 r h1 h2
theorem xH {m:aN} (h:BK m=true) (n:ByteArray):eF [aC true aE m,T.v (.string n)]=some (Sh.enc [(true,bH),(false,.bool)] (found dO (cJ m n))):=(AG1 ..).trans (p0 _ h)
theorem AMN:aK Tryz.prog 127 iP:=AN9 fun m n t r h hb=>by
 obtain ⟨hok,rfl⟩:=pZ h
 clear h
 unfold HM
 refine aD (s:=[(true,bH),(false,.bool)]) (xH hok n) ?_
 cases hg:cJ m n with
 | none =>
  show aB false _ _
  rw[fV]
  exact cM (by unfold iB;rw[hg])
 | some g =>
  show aB true _ _
  rw[eU]
  dsimp only[found]
  have hlen:g.2.2.2.length≤1000:=by
   simp only[BK,Bool.and_eq_true,decide_eq_true_eq] at hok
   exact of_decide_eq_true (List.all_eq_true.1 hok.2 _ (List.mem_of_find?_eq_some hg))
  have w:iB m n t=g.2.2.2.any fun x=>decide (t=x):=by unfold iB;rw[hg]
  refine aZ g.2.2.2.length (fun k s=>s=((k:Int),())∧g.2.2.2.any (fun x=>decide (t=x))=(g.2.2.2.drop k).any fun x=>decide (t=x)) ⟨rfl,by rw[List.drop_zero]⟩ ?_
  rintro X k s hk ⟨rfl,hf⟩ hX
  dsimp only
  refine bL (fun hlt=>?_) fun hge=>cM ?_
  ·rw[List.length_map] at hlt
   have hlt:k<g.2.2.2.length:=by omega
   rw[List.drop_eq_getElem_cons hlt,List.any_cons] at hf
   rw[aT (r:=.int .i64) hlt]
   refine bL (fun hc=>cM ?_) fun hc=>hX _ hlt ⟨by rw[rV (by omega)],by rw[hf,decide_eq_false hc,Bool.false_or]⟩
   rw[w,hf,decide_eq_true hc,decide_eq_true (show 0≤(k:Int) by omega)];rfl
  ·rw[List.length_map] at hge
   have:k=g.2.2.2.length:=by omega
   subst this
   rw[w,hf,List.drop_length];rfl
end Go.Pv
