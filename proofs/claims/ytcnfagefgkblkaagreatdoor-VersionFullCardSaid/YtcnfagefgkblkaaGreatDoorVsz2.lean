/-
  region: Check, Area2.
  vec.Valid; material: Check, Grade, Rolled.
  part: Check, Mass.
  Chapter 17: the tree's parts and packages in full.
  Chapter 17: the tree's packages in full.
  Chapter 17: Check where the parts and packages are empty ones; StructureLong, walked.
  Chapter 17: structure.Check in full.
  What an edit does to a design, in plain words.
  The reference's material.Check.
  R17.Has.
  The form of a design, as the reference looks at it.
  The closures of edit.kinds: what they come to.
  edit.Apply, the kinds 5 and 6 (the copied parts are turned in place).
  edit.Apply, kind by kind.
  edit.Apply, the kinds 5 and 6 (the copied parts are turned in place).
  shipyardref16.Few, shipyardref19.Few.
  edit.Apply with a kind that there is not; edit.Apply.
  Designs that an edit makes are not too large.
  Change orders, plain: an order has the effect of its beginning followed by the rest.
  change.Apply: an order, edit by edit.
-/
import Derived.Test.YtcnfagefgkblkaaGreatDoorVsz1
import Derived.Sort.Walk0
import Derived.Test.YtcnfagefgkblkaaGreatDoorVskp
set_option linter.defProp false
set_option linter.unusedSimpArgs false
set_option linter.unusedVariables false
set_option maxRecDepth 100000
namespace Go.Pv
open Go Go.Proofs
theorem qJ {r:Sy} {l:List r.den} (f:Nat→Int) (hl:l.length≤1000000) {Body:(Int×PUnit→Prop)→Int×PUnit→r.den→Prop} {Exit:Prop}
  (hbody:∀ (X:Int×PUnit→Prop) (k:Nat) (hk:k<l.length),(∀ j,j<k→f j=0)→(f k=0→X (((k+1:Nat):Int),()))→(f k≠0→bP f (List.range l.length)=f k)→Body X ((k:Int),()) l[k]) (hexit:bP f (List.range l.length)=0→Exit) :
  a7 (Int×PUnit) (fun (X:Int×PUnit→Prop) (s:Int×PUnit)=>aD (decide (s.1<((List.map r.enc l).length:Int))) (aS r (List.map r.enc l) s.1 fun y=>Body X s y) Exit) (0,()):=by
 refine bK l.length (fun k s=>s=((k:Int),())∧bP f (List.range l.length)=bP f (List.range' k (l.length-k))∧∀ j,j<k→f j=0) ⟨rfl,by rw[List.range_eq_range'];rfl,fun j h=>by omega⟩ ?_
 rintro X k s hk ⟨rfl,he,hp⟩ hX
 dsimp only
 refine bZ (fun hlt=>?_) fun hge=>?_
 ·rw[List.length_map] at hlt
  have hlt:k<l.length:=by omega
  rw[bD hlt]
  obtain ⟨m,hm⟩:∃ m,l.length-k=m+1:=⟨l.length-k-1,by omega⟩
  rw[hm,List.range'_succ,bP] at he
  refine hbody X k hlt hp (fun h0=>?_) fun h0=>by rw[he,if_neg h0]
  rw[if_pos h0] at he
  exact hX _ hlt ⟨rfl,by rw[he];congr 2;omega,fun j hj=>by
   rcases Nat.lt_or_ge j k with h|h
   ·exact hp j h
   ·have:j=k:=by omega
    subst this;exact h0⟩
 ·rw[List.length_map] at hge
  have:l.length-k=0:=by omega
  rw[this] at he
  exact hexit he
def HB (s:lL) (i:Nat):Int:=if ¬ jU (s.2.getD i [])=0 then jU (s.2.getD i []) else if 0≤qG (s.2.getD i [])∨qZ (s.2.getD i []) s.1=false then 17 else if ((List.range i).all fun k=>sO (s.2.getD i []) (s.2.getD k []))=false then 17 else 0
def wO (s:lL):Int:=if 8<s.2.length then 12 else if ¬ jU s.1=0 then jU s.1 else if qG s.1≤0 then 17 else bP (HB s) (List.range s.2.length)
theorem kZ {α:Type} {f:α→Int}:∀ {l:List α},bP f l=0→∀ a∈l,f a=0
 | a::l,h,b,hb=>by
  unfold bP at h
  by_cases ha:f a=0
  ·rw[if_pos ha] at h
   rcases List.mem_cons.1 hb with rfl|hb
   ·exact ha
   ·exact kZ h b hb
  ·rw[if_neg ha] at h;exact absurd h ha
 | [],_,b,hb=>by cases hb
theorem AOQ (l:List (List aO)):FP 1 (List.map aA.li.enc l)=true:=by cases l<;>rfl
noncomputable def AP7:Env:=Env.of [(170,.pure fV),(171,.pure lV),(172,.pure oT),(173,.pure r8)]
def AS5:FuncId→Hint:=bV 141 [(9,.inv [.val 26 false (.int .i64)]),(17,.inv [.val 51 false (.int .i64)])] (fun _=>aX)
theorem AB0:aQ Tryz.prog AP7:=.cons z7 (.cons PB (.cons AD7 (.cons AMR (.nil _))))
def BFD:Sh:=[(false,Sy.int IntKind.i64)]
def BFF:Sh:=[(false,Sy.bool)]
def BFG:T:=T.v (.int .i64 0)
def BFR:T:=T.v (.int .i64 17)
def BGT(y0:Int):T:=T.v (.int .i64 y0)
def BF1(X8:Int×PUnit→Prop)(s9:Int×PUnit):Prop:=X8 (IntKind.i64.wrap (s9.1+1),())
def BGS(a0:lL):List (List T):=List.map aA.li.enc a0.2
def BHP(a0:lL):List T:=[T.sl false (List.map aA.enc a0.1)]
def BHV(y4:List aO):List (List T):=List.map aA.enc y4
def JS(a0:lL)(R:T→Prop):Prop:=aD (decide (8<(↑(BGS a0).length:Int))) (R (T.v (.int .i64 12))) (aI BFD (fV (BHP a0)) fun (y0:Int)=>aD (!decide (y0=0)) (R (BGT y0)) (aI BFD (lV (BHP a0)) fun (y1:Int)=>aD (decide (y1≤0)) (R BFR) (a7 (Int×PUnit) (fun X2 s3=>aD (decide (s3.1<(↑(BGS a0).length:Int))) (aS aA.li (BGS a0) s3.1 fun (y4:List aO)=>aI BFD (fV [T.sl false (BHV y4)]) fun (y5:Int)=>aD (!decide (y5=0)) (R (BGT y5)) (aI BFD (lV [T.sl false (BHV y4)]) fun (y6:Int)=>aD (decide (0≤y6)) (R BFR) (aI BFF (oT [T.sl false (BHV y4), T.sl false (List.map aA.enc a0.1)]) fun (y7:Bool)=>aD (!y7) (R BFR) (bN (FP 1 (BGS a0) && (decide (0≤s3.1) && decide (Int.toNat s3.1≤(BGS a0).length)) && true) (a7 (Int×PUnit) (fun X8 s9=>aD (decide (s9.1 < (↑(List.drop 0 (List.take (Int.toNat s3.1) (BGS a0))).length : Int))) (aS aA.li (List.drop 0 (List.take (Int.toNat s3.1) (BGS a0))) s9.1 fun (y10:List aO)=>aI BFF (r8 [T.sl false (BHV y4), T.sl false (BHV y10)]) fun (y11:Bool)=>aD (!y11) (R BFR) (BF1 X8 s9)) (BF1 X2 s3)) (0,())))))) (R BFG)) (0,()))))
abbrev M3:Sh:=[(true,gW)]
def yF (s:lL):Option T:=some (T.v (Value.int .i64 (wO s)))
noncomputable def iK:List T→Option T:=gS M3 yF
theorem Y4 {a0}:iK [aF true gW a0]=yF (a0):=bC (s:=M3) rfl (a0) rfl
theorem AOI:rM Tryz.prog 141 iK yF (b9 M3) JS:=gQ (a1:=(true,gW)) (sp:=yF) (F:=JS) (Hs:=AS5) (f:=141) (k:=8) AB0 aR aU (aL rfl) ⟨_,_,Tryz.func141,rfl⟩ rfl fun _ _=>by kernel_rfl
theorem PD:aN Tryz.prog 141 iK:=AOI fun s r h hb=>by
 cases h
 have is:∀ {n:Int},wO s=n→T.v (.int .i64 n)=T.v (.int .i64 (wO s)):=fun h=>by rw[h]
 unfold JS BHV BHP BGS BF1 BGT BFR BFG BFF BFD
 refine bZ (fun h=>is (by rw[List.length_map] at h;unfold wO;rw[if_pos (by omega)])) fun h1=>?_
 rw[List.length_map] at h1
 refine aG (s:=[(false,.int .i64)]) (oE s.1) ?_
 refine lI (fun h=>is (by unfold wO;rw[if_neg (by omega),if_pos h])) fun h2=>?_
 refine aG (s:=[(false,.int .i64)]) (vX s.1) ?_
 refine bZ (fun h=>is (by unfold wO;rw[if_neg (by omega),if_neg (by simpa using h2),if_pos h])) fun h3=>?_
 have w:wO s=bP (HB s) (List.range s.2.length):=by unfold wO;rw[if_neg (by omega),if_neg (by simpa using h2),if_neg h3]
 obtain ⟨ho3,ho32,hoN,_⟩:=sH h2
 refine qJ (r:=aA.li) (HB s) (by show s.2.length≤1000000;omega) (fun X k hk hprev hok hbad=>?_) fun h0=>is (w.trans h0)
 have hk:k<s.2.length:=hk
 have hg:s.2.getD k []=s.2[k]:=by rw[List.getD_eq_getElem?_getD,List.getElem?_eq_getElem hk];rfl
 have bad:∀ {n:Int},n≠0→HB s k=n→T.v (.int .i64 n)=T.v (.int .i64 (wO s)):=fun hn h=>is (w.trans ((hbad (by rw[h];exact hn)).trans h))
 have hE:HB s k=if ¬ jU s.2[k]=0 then jU s.2[k] else if 0≤qG s.2[k]∨qZ s.2[k] s.1=false then 17 else if ((List.range k).all fun j=>sO s.2[k] (s.2.getD j []))=false then 17 else 0:=by unfold HB;rw[hg]
 show aI [(false,Sy.int IntKind.i64)] (fV [T.sl false (List.map aA.enc s.2[k])]) _
 refine aG (s:=[(false,.int .i64)]) (oE s.2[k]) ?_
 refine lI (fun h=>bad h (by rw[hE,if_pos h])) fun p1=>?_
 refine aG (s:=[(false,.int .i64)]) (vX s.2[k]) ?_
 refine bZ (fun h=>bad (by decide) (by rw[hE,if_neg (by simpa using p1),if_pos (.inl h)])) fun p2=>?_
 obtain ⟨hp3,hp32,hpN,_⟩:=sH p1
 refine aG (s:=[(false,.bool)]) (S5 (by omega) hpN (by omega) hoN) ?_
 refine kQ (fun h=>bad (by decide) (by rw[hE,if_neg (by simpa using p1),if_pos (.inr h)])) fun p3=>?_
 have hE2:HB s k=if ((List.range k).all fun j=>sO s.2[k] (s.2.getD j []))=false then 17 else 0:=by
  rw[hE,if_neg (by simpa using p1),if_neg]
  rintro (h|h)
  ·exact p2 h
  ·rw[show qZ s.2[k] s.1=true from p3] at h;cases h
 refine ⟨by rw[AOQ,List.length_map];simp;omega,?_⟩
 have htk:List.drop 0 (List.take (Int.toNat (k:Int)) (List.map aA.li.enc s.2))=List.map aA.li.enc (s.2.take k):=by rw[List.drop_zero,Int.toNat_natCast,List.map_take]
 dsimp only
 rw[htk]
 have ht:(s.2.take k).length=k:=by rw[List.length_take];omega
 refine bK k (fun j s'=>s'=((j:Int),())∧∀ i,i<j→sO s.2[k] (s.2.getD i [])=true) ⟨rfl,fun i h=>by omega⟩ ?_
 rintro Y j s' hj ⟨rfl,hJ⟩ hY
 dsimp only
 refine bZ (fun hlt=>?_) fun hge=>?_
 ·rw[List.length_map,ht] at hlt
  have hlt:j<k:=by omega
  rw[bD (r:=aA.li) (show j<(s.2.take k).length by omega)]
  have hgj:s.2.getD j []=s.2[j]:=by rw[List.getD_eq_getElem?_getD,List.getElem?_eq_getElem (by omega)];rfl
  have hgt:(s.2.take k)[j]'(by omega)=s.2[j]:=by simp
  rw[hgt]
  have hj0:jU s.2[j]=0:=by
   have h0:=hprev j hlt
   unfold HB at h0
   rw[hgj] at h0
   refine Classical.byContradiction fun hc=>?_
   rw[if_pos hc] at h0
   exact hc h0
  obtain ⟨hq3,hq32,hqN,_⟩:=sH hj0
  refine aG (s:=[(false,.bool)]) (Y1 (by omega) (by omega) (by omega) hpN (by omega) hqN) ?_
  refine kQ (fun h=>bad (by decide) ?_) fun h=>hY _ hlt ⟨by rw[show IntKind.i64.wrap ((j:Int)+1)=((j+1:Nat):Int) from bB _ (by omega) (by omega)],fun i hi=>by
   rcases Nat.lt_or_ge i j with h3|h3
   ·exact hJ i h3
   ·have:i=j:=by omega
    subst this;rw[hgj];exact h⟩
  rw[hE2,if_pos (R5 hlt (by rw[hgj];exact h))]
 ·rw[List.length_map,ht] at hge
  have:j=k:=by omega
  subst this
  rw[show IntKind.i64.wrap ((j:Int)+1)=((j+1:Nat):Int) from bB _ (by omega) (by omega)]
  refine hok ?_
  rw[hE2,if_neg]
  rw[oN.2 hJ];simp
theorem G5 (s:lL):iK [aF true gW s]=some (Sh.enc [(false,.int .i64)] (wO s)):=Y4 ..
noncomputable def AP8:Env:=Env.of []
def AS6:FuncId→Hint:=fun _=>aX
theorem AB1:aQ Tryz.prog AP8:=.nil _
def JT(a0:lL)(R:T→Prop):Prop:=aD (BGS a0).isEmpty (R (T.sl false [(BHP a0)])) (bN (fS 1 (BGS a0) && decide ((1+(BGS a0).length)*24≤140737488355328) && decide (1+(BGS a0).length≤140737488355328)) (R (T.sl false ((BHP a0) :: (BGS a0)))))
abbrev M4:Sh:=[(true,gW)]
abbrev AYM:Sh:=[(false,aA.li.li)]
def oY (s:lL):Option T:=match decide (s.2.length≤1000) with
 | true=>some (Sh.enc AYM (s.1::s.2))
 | false=>none
noncomputable def v8:List T→Option T:=gS M4 oY
theorem Y5 {a0}:v8 [aF true gW a0]=oY (a0):=bC (s:=M4) rfl (a0) rfl
theorem AOJ:rM Tryz.prog 180 v8 oY (b9 M4) JT:=gQ (a1:=(true,gW)) (sp:=oY) (F:=JT) (Hs:=AS6) (f:=180) (k:=8) AB1 aR aU (aL rfl) ⟨_,_,Tryz.func180,rfl⟩ rfl fun _ _=>by kernel_rfl
theorem AMT:aN Tryz.prog 180 v8:=AOJ fun s r h hb=>by
 unfold oY at h
 split at h
 ·rename_i hc
  have hc:s.2.length≤1000:=of_decide_eq_true hc
  cases h
  obtain ⟨o,hs⟩:=s
  unfold JT BHP BGS
  cases hs with
  | nil=>exact (rfl:T.sl false [[T.sl false (List.map aA.enc o)]]=_)
  | cons a l =>
   show bN _ _
   refine ⟨?_,rfl⟩
   simp only[Bool.and_eq_true,decide_eq_true_eq,List.length_map]
   have hc:(a::l).length≤1000:=hc
   exact ⟨⟨u6 (.li aA) (a::l),by omega⟩,by omega⟩
 ·cases h
def BD8 (l:List (List Pt)):Int:=yR l.length fun i=>qG (l.getD i [])
def AAJ (s:lL):Int:=if wO s=0 then BD8 (s.1::s.2) else 0
theorem WH (p:List Pt):-68719476736≤qG p∧qG p≤68719476736:=by
 unfold qG
 by_cases h:jU p=0
 ·rw[if_pos h]
  obtain ⟨_,h2,h3,_⟩:=sH h
  have:=H5 h3 p.length
  unfold KB
  omega
 ·rw[if_neg h];omega
theorem AJA (l:List (List Pt)):∀ n:Nat,-(68719476736*(n:Int))≤yR n (fun i=>qG (l.getD i []))∧yR n (fun i=>qG (l.getD i []))≤68719476736*(n:Int)
 | 0=>by simp[yR]
 | n+1=>by
  have ih:=AJA l n
  have hb:=WH (l.getD n [])
  unfold yR
  constructor<;>push_cast<;>omega
noncomputable def AP6:Env:=Env.of [(141,.pure iK),(180,.pure v8),(171,.pure lV)]
def AS4:FuncId→Hint:=bV 146 [(5,.inv [.val 3 false (.int .i64),.val 12 false (.int .i64)])] (fun _=>aX)
theorem ABZ:aQ Tryz.prog AP6:=.cons PD (.cons AMT (.cons PB (.nil _)))
def JR(a0:lL)(R:T→Prop):Prop:=aI BFD (iK [aF true gW a0]) fun (y0:Int)=>aD (!decide (y0=0)) (R BFG) (aI [(false,aA.li.li)] (v8 [aF true gW a0]) fun (y1:List (List aO))=>a7 (Int×Int×PUnit) (fun X2 s3=>aD (decide (s3.2.1<(↑(List.map aA.li.enc y1).length:Int))) (aS aA.li (List.map aA.li.enc y1) s3.2.1 fun (y4:List aO)=>aI BFD (lV [T.sl false (BHV y4)]) fun (y5:Int)=>X2 (IntKind.i64.wrap (s3.1+y5),IntKind.i64.wrap (s3.2.1+1),())) (R (T.v (.int .i64 s3.1)))) (0,0,()))
abbrev M1:Sh:=[(true,gW)]
def yE (s:lL):Option T:=some (T.v (Value.int .i64 (AAJ s)))
noncomputable def sA:List T→Option T:=gS M1 yE
theorem Y2 {a0}:sA [aF true gW a0]=yE (a0):=bC (s:=M1) rfl (a0) rfl
theorem AOH:rM Tryz.prog 146 sA yE (b9 M1) JR:=gQ (a1:=(true,gW)) (sp:=yE) (F:=JR) (Hs:=AS4) (f:=146) (k:=8) ABZ aR aU (aL rfl) ⟨_,_,Tryz.func146,rfl⟩ rfl fun _ _=>by kernel_rfl
theorem AMS:aN Tryz.prog 146 sA:=AOH fun s r h hb=>by
 cases h
 have is:∀ {n:Int},AAJ s=n→T.v (.int .i64 n)=T.v (.int .i64 (AAJ s)):=fun h=>by rw[h]
 unfold JR BHV BFG BFD
 refine aG (s:=[(false,.int .i64)]) (G5 s) ?_
 refine lI (fun h=>is (by unfold AAJ;rw[if_neg h])) fun h=>?_
 have h8:s.2.length≤8:=by
  refine Classical.byContradiction fun hc=>?_
  unfold wO at h
  rw[if_pos (by omega)] at h;cases h
 refine aG (s:=[(false,.li (.li aA))]) (y:=(s.1::s.2:List (List aO))) ((Y5 ..).trans (by unfold oY;rw[decide_eq_true (by omega)])) ?_
 have w:AAJ s=BD8 (s.1::s.2):=by unfold AAJ;rw[if_pos h]
 have hlen:(s.1::s.2).length≤9:=by simp;omega
 generalize s.1::s.2=l at w hlen
 refine bK l.length (fun k t=>t=(yR k (fun i=>qG (l.getD i [])),(k:Int),())) rfl ?_
 rintro X k t hk rfl hX
 dsimp only
 refine bZ (fun hlt=>?_) fun hge=>is (by rw[List.length_map] at hge;rw[w,show k=l.length by omega];rfl)
 rw[List.length_map] at hlt
 have hlt:k<l.length:=by omega
 rw[bD (r:=aA.li) hlt]
 have hg:l.getD k []=l[k]:=by rw[List.getD_eq_getElem?_getD,List.getElem?_eq_getElem hlt];rfl
 refine aG (s:=[(false,.int .i64)]) (vX l[k]) ?_
 refine hX _ hlt ?_
 have b1:=AJA l k
 have b2:=WH l[k]
 rw[show IntKind.i64.wrap ((k:Int)+1)=((k+1:Nat):Int) from bB _ (by omega) (by omega),bB _ (by omega) (by omega),yR,hg]
theorem Y3 (s:lL):sA [aF true gW s]=some (Sh.enc [(false,.int .i64)] (AAJ s)):=Y2 ..
end Go.Pv
namespace Go.Pv
open Go Go.Proofs
noncomputable def AKB:Env:=Env.of []
def ALC:FuncId→Hint:=bV 174 [(2,.AG8 4)] (fun _=>aX)
theorem VR:aQ Tryz.prog AKB:=.nil _
def BFB:T:=T.v (.bool false)
def BFI:T:=T.v (.bool true)
def EF(a0:ALD)(a1:Int)(R:T→Prop):Prop:=aD (decide (a0.1<IntKind.i64.wrap (0-a1))) (R BFB) (aD (decide (a1<a0.1)) (R BFB) (aD (decide (a0.2.1<IntKind.i64.wrap (0-a1))) (R BFB) (aD (decide (a1<a0.2.1)) (R BFB) (aD (decide (a0.2.2<IntKind.i64.wrap (0-a1))) (R BFB) (aD (decide (a1<a0.2.2)) (R BFB) (R BFI))))))
abbrev GB:Sh:=[(true,AO9),(false,(Sy.int IntKind.i64))]
def zH (v:ALD):Bool:=decide (-524288≤v.1)&&decide (v.1≤524288)&&(decide (-524288≤v.2.1)&&decide (v.2.1≤524288))&&(decide (-524288≤v.2.2)&&decide (v.2.2≤524288))
def pN (x:ALD×Int):Option T:=match decide (x.2=524288) with
 | true=>some (T.v (.bool (zH x.1)))
 | false=>none
noncomputable def sC:List T→Option T:=gS GB pN
theorem S8 {a0 a1}:sC [aF true AO9 a0,T.v (.int .i64 a1)]=pN (a0,a1):=bC (s:=GB) rfl (a0,a1) rfl
theorem AFT:yL Tryz.prog 174 sC pN (b9 GB) EF:=jZ (a1:=(true,AO9)) (a2:=(false,(Sy.int IntKind.i64))) (sp:=pN) (F:=EF) (Hs:=ALC) (f:=174) (k:=8) VR aR aU (aL rfl) ⟨_,_,Tryz.func174,rfl⟩ rfl fun _ _ _=>by kernel_rfl
theorem AD9:aN Tryz.prog 174 sC:=AFT fun v n r h hb=>by
 unfold pN at h
 split at h
 ·rename_i hn
  have hn:n=524288:=of_decide_eq_true hn
  subst hn
  cases h
  unfold EF BFI BFB
  rw[show IntKind.i64.wrap (0-524288) = -524288 from rfl]
  have no:∀ {P:Prop},(¬ (-524288≤v.1∧v.1≤524288∧-524288≤v.2.1∧v.2.1≤524288∧-524288≤v.2.2∧v.2.2≤524288))→T.v (.bool false)=T.v (.bool (zH v)):=fun h=>iI (Eq.symm (by
   rw[Bool.eq_false_iff];intro h2;simp only[zH,Bool.and_eq_true,decide_eq_true_eq] at h2;omega))
  refine bZ (fun h=>no (P:=True) (by omega)) fun h1=>bZ (fun h=>no (P:=True) (by omega)) fun h2=>bZ (fun h=>no (P:=True) (by omega)) fun h3=>bZ (fun h=>no (P:=True) (by omega)) fun h4=>bZ (fun h=>no (P:=True) (by omega)) fun h5=>bZ (fun h=>no (P:=True) (by omega)) fun h6=>iI ?_
  simp only[zH]
  rw[decide_eq_true (by omega),decide_eq_true (by omega),decide_eq_true (by omega),decide_eq_true (by omega),decide_eq_true (by omega),decide_eq_true (by omega)];rfl
 ·cases h
def AFC (t:Int):Int:=if t<0∨24≤t then 0 else t
noncomputable def AKA:Env:=Env.of []
def ALB:FuncId→Hint:=fun _=>aX
theorem VQ:aQ Tryz.prog AKA:=.nil _
def EE(a0:Int)(R:T→Prop):Prop:=aD (decide (a0<0)) (R BFG) (aD (decide (24≤a0)) (R BFG) (R (BGT a0)))
abbrev GA:Sh:=[(false,(Sy.int IntKind.i64))]
def uE (t:Int):Option T:=some (T.v (Value.int .i64 (AFC t)))
noncomputable def sB:List T→Option T:=gS GA uE
theorem S7 {a0}:sB [T.v (.int .i64 a0)]=uE (a0):=bC (s:=GA) rfl (a0) rfl
theorem AFS:rM Tryz.prog 175 sB uE (b9 GA) EE:=gQ (a1:=(false,(Sy.int IntKind.i64))) (sp:=uE) (F:=EE) (Hs:=ALB) (f:=175) (k:=8) VQ aR aU (aL rfl) ⟨_,_,Tryz.func175,rfl⟩ rfl fun _ _=>by kernel_rfl
theorem AD8:aN Tryz.prog 175 sB:=AFS fun t r h hb=>by
 cases h
 unfold EE BGT BFG
 exact bZ (fun h=>HS (by unfold AFC;rw[if_pos (.inl h)])) fun h1=>bZ (fun h=>HS (by unfold AFC;rw[if_pos (.inr h)])) fun h2=>HS (by unfold AFC;rw[if_neg (by omega)])
def rE (p:zQ):Bool:=zH p.1&&decide (p.2=AFC p.2)
noncomputable def AQH:Env:=Env.of [(174,.pure sC),(175,.pure sB)]
def ATB:FuncId→Hint:=fun _=>aX
theorem AB7:aQ Tryz.prog AQH:=.cons AD9 (.cons AD8 (.nil _))
def JZ(a0:zQ)(R:T→Prop):Prop:=aI BFF (sC [aF true AO9 a0.1,T.v (.int .i64 524288)]) fun (y0:Bool)=>aD y0 (aI BFD (sB [T.v (.int .i64 a0.2)]) fun (y1:Int)=>R (T.v (.bool (decide (a0.2=y1))))) (R BFB)
abbrev M8:Sh:=[(true,eT)]
def yJ (p:zQ):Option T:=some (T.v (.bool (rE p)))
noncomputable def cB:List T→Option T:=gS M8 yJ
theorem G9 {a0}:cB [aF true eT a0]=yJ (a0):=bC (s:=M8) rfl (a0) rfl
theorem AOP:rM Tryz.prog 143 cB yJ (b9 M8) JZ:=gQ (a1:=(true,eT)) (sp:=yJ) (F:=JZ) (Hs:=ATB) (f:=143) (k:=8) AB7 aR aU (aL rfl) ⟨_,_,Tryz.func143,rfl⟩ rfl fun _ _=>by kernel_rfl
theorem AMX:aN Tryz.prog 143 cB:=AOP fun p r h hb=>by
 cases h
 unfold JZ BFF BFD BFB
 refine aG (s:=[(false,.bool)]) (y:=zH p.1) (S8 ..) ?_
 refine E5 (fun h=>?_) fun h=>iI (by unfold rE;rw[h];rfl)
 refine aG (s:=[(false,.int .i64)]) (y:=AFC p.2) (S7 ..) ?_
 exact iI (by unfold rE;rw[h];rfl)
def E4 (l:List Int) (i:Nat):Int:=if ¬ (1≤l.getD i 0∧l.getD i 0≤120) then 9 else if 0<i∧l.getD i 0≤l.getD (i-1) 0 then 11 else 0
def iT (g:cR):Int:=if isName g.1=false then 6 else if ¬ (1000≤g.2.1∧g.2.1≤20000∧100≤g.2.2.1∧g.2.2.1≤1500) then 9 else if g.2.2.2.length=0 then 3 else if 16<g.2.2.2.length then 4 else bP (E4 g.2.2.2) (List.range g.2.2.2.length)
def HW (s:cA):Int:=if isName s.1=false then 6 else if ¬ (1≤s.2.1∧s.2.1≤1000000∧1≤s.2.2.1∧s.2.2.1≤2000∧100≤s.2.2.2∧s.2.2.2≤32768) then 9 else 0
theorem HC (s:ByteArray) (K:Bool→Prop):aI [(false,Sy.bool)] (gN [T.v (.string s)]) K=K (isName s):=by
 rw[show gN [T.v (.string s)]=sL s from vT]
 exact OH _ K
noncomputable def APX:Env:=Env.of [(57,.pure gN)]
def ASW:FuncId→Hint:=bV 93 [(10,.inv [.val 34 false (.int .i64)])] (fun _=>aX)
theorem ABR:aQ Tryz.prog APX:=.cons xC (.nil _)
def BFE:T:=T.v (.int .i64 9)
def BFJ:Sy:=Sy.int IntKind.i64
def BFO:T:=T.v (.int .i64 6)
def BFP:T:=T.v (.int .i64 11)
def BHJ(a0:cR):List (List T):=List.map BFJ.enc a0.2.2.2
def JJ(a0:cR)(R:T→Prop):Prop:=aI BFF (gN [T.v (.string a0.1)]) fun (y0:Bool)=>aD (!y0) (R BFO) (aD (decide (1000≤a0.2.1)) (aD (!decide (a0.2.1≤20000)) (R BFE) (aD (decide (100≤a0.2.2.1)) (aD (!decide (a0.2.2.1≤1500)) (R BFE) (aD (decide ((↑(BHJ a0).length:Int)=0)) (R (T.v (.int .i64 3))) (aD (decide (16<(↑(BHJ a0).length:Int))) (R (T.v (.int .i64 4))) (a7 (Int×PUnit) (fun X1 s2=>aD (decide (s2.1<(↑(BHJ a0).length:Int))) (aS BFJ (BHJ a0) s2.1 fun (y3:Int)=>aD (decide (1≤y3)) (aD (!decide (y3≤120)) (R BFE) (aD (decide (0<s2.1)) (aS BFJ (BHJ a0) (IntKind.i64.wrap (s2.1-1)) fun (y4:Int)=>aD (decide (y3≤y4)) (R BFP) (BF1 X1 s2)) (BF1 X1 s2))) (R BFE)) (R BFG)) (0,()))))) (R BFE))) (R BFE))
abbrev MT:Sh:=[(true,bQ)]
def x6 (g:cR):Option T:=some (T.v (Value.int .i64 (iT g)))
noncomputable def vW:List T→Option T:=gS MT x6
theorem YK {a0}:vW [aF true bQ a0]=x6 (a0):=bC (s:=MT) rfl (a0) rfl
theorem AN9:rM Tryz.prog 93 vW x6 (b9 MT) JJ:=gQ (a1:=(true,bQ)) (sp:=x6) (F:=JJ) (Hs:=ASW) (f:=93) (k:=8) ABR aR aU (aL rfl) ⟨_,_,Tryz.func93,rfl⟩ rfl fun _ _=>by kernel_rfl
theorem tI {α:Type} {l:List α} {i:Nat} {d:α} (h:i<l.length):l.getD i d=l[i]:=by rw[List.getD_eq_getElem?_getD,List.getElem?_eq_getElem h];rfl
theorem TN {r:Sy} {l:List r.den} {k:Nat} (hk:k<l.length) (h0:0<k) (hl:l.length≤1000000) (K:r.den→Prop):aS r (List.map r.enc l) (IntKind.i64.wrap ((k:Int)-1)) K=K (l[k-1]'(by omega)):=by
 rw[show IntKind.i64.wrap ((k:Int)-1)=((k-1:Nat):Int) by rw[bB _ (by omega) (by omega)];omega]
 exact bD (by omega) K
theorem L6 {k:Nat} (h:k<1000000):IntKind.i64.wrap ((k:Int)+1)=((k+1:Nat):Int):=bB _ (by omega) (by omega)
theorem AMN:aN Tryz.prog 93 vW:=AN9 fun g r h hb=>by
 cases h
 have is:∀ {n:Int},iT g=n→T.v (.int .i64 n)=T.v (.int .i64 (iT g)):=fun h=>by rw[h]
 unfold JJ BHJ BF1 BFP BFO BFJ BFG BFF BFE
 rw[HC]
 refine kQ (fun h=>is (by unfold iT;rw[if_pos h])) fun hn=>?_
 have hn':¬ isName g.1=false:=by rw[hn];simp
 have r9:¬ (1000≤g.2.1∧g.2.1≤20000∧100≤g.2.2.1∧g.2.2.1≤1500)→T.v (.int .i64 9)=T.v (.int .i64 (iT g)):=fun h=>is (by unfold iT;rw[if_neg hn',if_pos h])
 refine bZ (fun h1=>lI (fun h=>r9 (by omega)) fun h2=>bZ (fun h3=>lI (fun h=>r9 (by omega)) fun h4=>?_) fun h=>r9 (by omega)) fun h=>r9 (by omega)
 have hr:¬ ¬ (1000≤g.2.1∧g.2.1≤20000∧100≤g.2.2.1∧g.2.2.1≤1500):=by omega
 refine bZ (fun h=>is (by rw[List.length_map] at h;unfold iT;rw[if_neg hn',if_neg hr,if_pos (by omega)])) fun h5=>?_
 refine bZ (fun h=>is (by rw[List.length_map] at h h5;unfold iT;rw[if_neg hn',if_neg hr,if_neg (by omega),if_pos (by omega)])) fun h6=>?_
 rw[List.length_map] at h5 h6
 have w:iT g=bP (E4 g.2.2.2) (List.range g.2.2.2.length):=by unfold iT;rw[if_neg hn',if_neg hr,if_neg (by omega),if_neg (by omega)]
 refine qJ (r:=.int .i64) (E4 g.2.2.2) (by omega) (fun X k hk hprev hok hbad=>?_) fun h0=>is (w.trans h0)
 have hk:k<g.2.2.2.length:=hk
 have bad:∀ {n:Int},n≠0→E4 g.2.2.2 k=n→T.v (.int .i64 n)=T.v (.int .i64 (iT g)):=fun hn h=>is (w.trans ((hbad (by rw[h];exact hn)).trans h))
 have hE:E4 g.2.2.2 k=if ¬ (1≤g.2.2.2[k]∧g.2.2.2[k]≤120) then 9 else if 0<k∧g.2.2.2[k]≤g.2.2.2.getD (k-1) 0 then 11 else 0:=by unfold E4;rw[tI hk]
 dsimp only
 rw[L6 (by omega)]
 refine bZ (fun p1=>lI (fun h=>bad (by decide) (by rw[hE,if_pos (by omega)])) fun p2=>?_) fun h=>bad (by decide) (by rw[hE,if_pos (by omega)])
 refine bZ (fun p3=>?_) fun p3=>hok (by rw[hE,if_neg (by omega),if_neg (by omega)])
 have k0:0<k:=by omega
 rw[TN (r:=.int .i64) hk k0 (by omega)]
 have hg1:g.2.2.2.getD (k-1) 0=g.2.2.2[k-1]'(by omega):=tI (by omega)
 exact bZ (fun h=>bad (by decide) (by rw[hE,if_neg (by omega),hg1,if_pos ⟨k0,h⟩])) fun h=>hok (by rw[hE,if_neg (by omega),hg1,if_neg (fun hc=>h hc.2)])
noncomputable def ABD:Env:=Env.of [(57,.pure gN)]
def ACX:FuncId→Hint:=fun _=>aX
theorem RF:aQ Tryz.prog ABD:=.cons xC (.nil _)
def zO(a0:cA)(R:T→Prop):Prop:=aI BFF (gN [T.v (.string a0.1)]) fun (y0:Bool)=>aD (!y0) (R BFO) (aD (decide (1≤a0.2.1)) (aD (!decide (a0.2.1≤1000000)) (R BFE) (aD (decide (1≤a0.2.2.1)) (aD (!decide (a0.2.2.1≤2000)) (R BFE) (aD (decide (100≤a0.2.2.2)) (aD (!decide (a0.2.2.2≤32768)) (R BFE) (R BFG)) (R BFE))) (R BFE))) (R BFE))
abbrev AR:Sh:=[(true,bH)]
def qU (s:cA):Option T:=some (T.v (Value.int .i64 (HW s)))
noncomputable def pA:List T→Option T:=gS AR qU
theorem N9 {a0}:pA [aF true bH a0]=qU (a0):=bC (s:=AR) rfl (a0) rfl
theorem Z6:rM Tryz.prog 94 pA qU (b9 AR) zO:=gQ (a1:=(true,bH)) (sp:=qU) (F:=zO) (Hs:=ACX) (f:=94) (k:=8) RF aR aU (aL rfl) ⟨_,_,Tryz.func94,rfl⟩ rfl fun _ _=>by kernel_rfl
theorem XA:aN Tryz.prog 94 pA:=Z6 fun s r h hb=>by
 cases h
 have is:∀ {n:Int},HW s=n→T.v (.int .i64 n)=T.v (.int .i64 (HW s)):=fun h=>by rw[h]
 unfold zO BFO BFG BFF BFE
 rw[HC]
 refine kQ (fun h=>is (by unfold HW;rw[if_pos h])) fun hn=>?_
 have hn':¬ isName s.1=false:=by rw[hn];simp
 have r9:¬ (1≤s.2.1∧s.2.1≤1000000∧1≤s.2.2.1∧s.2.2.1≤2000∧100≤s.2.2.2∧s.2.2.2≤32768)→T.v (.int .i64 9)=T.v (.int .i64 (HW s)):=fun h=>is (by unfold HW;rw[if_neg hn',if_pos h])
 refine bZ (fun h1=>lI (fun h=>r9 (by omega)) fun h2=>bZ (fun h3=>lI (fun h=>r9 (by omega)) fun h4=>bZ (fun h5=>lI (fun h=>r9 (by omega)) fun h6=>is ?_) fun h=>r9 (by omega)) fun h=>r9 (by omega)) fun h=>r9 (by omega)
 unfold HW;rw[if_neg hn',if_neg (by omega)]
def jQ:cR:=(⟨#[]⟩,0,0,[])
def QD (a b:ByteArray):Bool:=cM a b||decide (a=b)
def wE (m:aH) (i:Nat):Int:=if ¬ iT (m.1.getD i jQ)=0 then iT (m.1.getD i jQ) else if 0<i∧QD (m.1.getD i jQ).1 (m.1.getD (i-1) jQ).1=true then 11 else 0
def AO2 (m:aH) (i:Nat):Int:=if ¬ HW (m.2.getD i zE)=0 then HW (m.2.getD i zE) else if 0<i∧QD (m.2.getD i zE).1 (m.2.getD (i-1) zE).1=true then 11 else 0
def yQ (m:aH):Int:=if 16<m.1.length∨32<m.2.length then 4 else if ¬ bP (wE m) (List.range m.1.length)=0 then bP (wE m) (List.range m.1.length) else bP (AO2 m) (List.range m.2.length)
noncomputable def APW:Env:=Env.of [(93,.pure vW),(94,.pure pA)]
def ASV:FuncId→Hint:=bV 56 [(4,.inv [.val 22 false (.int .i64)]),(13,.inv [.val 50 false (.int .i64)])] (fun _=>aX)
theorem ABQ:aQ Tryz.prog APW:=.cons AMN (.cons XA (.nil _))
def BHQ(a0:aH):List (List T):=List.map bQ.enc a0.1
def JI(a0:aH)(R:T→Prop):Prop:=aD (decide (16<(↑(BHQ a0).length:Int))) (R (T.v (.int .i64 4))) (aD (decide (32<(↑(List.map bH.enc a0.2).length:Int))) (R (T.v (.int .i64 4))) (a7 (Int×PUnit) (fun X0 s1=>aD (decide (s1.1<(↑(BHQ a0).length:Int))) (aS bQ (BHQ a0) s1.1 fun (y2:cR)=>aI BFD (vW [aF true bQ y2]) fun (y3:Int)=>aD (!decide (y3=0)) (R (BGT y3)) (aD (decide (0<s1.1)) (aS bQ (BHQ a0) (IntKind.i64.wrap (s1.1-1)) fun (y4:cR)=>aD (cM y2.1 y4.1||decide (y2.1=y4.1)) (R BFP) (BF1 X0 s1)) (BF1 X0 s1))) (a7 (Int×PUnit) (fun X5 s6=>aD (decide (s6.1<(↑(List.map bH.enc a0.2).length:Int))) (aS bH (List.map bH.enc a0.2) s6.1 fun (y7:cA)=>aI BFD (pA [aF true bH y7]) fun (y8:Int)=>aD (!decide (y8=0)) (R (BGT y8)) (aD (decide (0<s6.1)) (aS bH (List.map bH.enc a0.2) (IntKind.i64.wrap (s6.1-1)) fun (y9:cA)=>aD (cM y7.1 y9.1||decide (y7.1=y9.1)) (R BFP) (BF1 X5 s6)) (BF1 X5 s6))) (R BFG)) (0,()))) (0,())))
abbrev MS:Sh:=[(true,aJ)]
def x5 (m:aH):Option T:=some (T.v (Value.int .i64 (yQ m)))
noncomputable def vV:List T→Option T:=gS MS x5
theorem YJ {a0}:vV [aF true aJ a0]=x5 (a0):=bC (s:=MS) rfl (a0) rfl
theorem AN8:rM Tryz.prog 56 vV x5 (b9 MS) JI:=gQ (a1:=(true,aJ)) (sp:=x5) (F:=JI) (Hs:=ASV) (f:=56) (k:=8) ABQ aR aU (aL rfl) ⟨_,_,Tryz.func56,rfl⟩ rfl fun _ _=>by kernel_rfl
theorem AMM:aN Tryz.prog 56 vV:=AN8 fun m r h hb=>by
 cases h
 have is:∀ {n:Int},yQ m=n→T.v (.int .i64 n)=T.v (.int .i64 (yQ m)):=fun h=>by rw[h]
 unfold JI BHQ BF1 BGT BFP BFG BFD
 refine bZ (fun h=>is (by rw[List.length_map] at h;unfold yQ;rw[if_pos (by omega)])) fun h1=>?_
 refine bZ (fun h=>is (by rw[List.length_map] at h;unfold yQ;rw[if_pos (by omega)])) fun h2=>?_
 rw[List.length_map] at h1 h2
 refine qJ (r:=bQ) (wE m) (by show m.1.length≤1000000;omega) (fun X k hk hprev hok hbad=>?_) fun h0=>?_
 ·have hk:k<m.1.length:=hk
  have bad:∀ {n:Int},n≠0→wE m k=n→T.v (.int .i64 n)=T.v (.int .i64 (yQ m)):=fun hn h=>is (by
   have hb:=(hbad (by rw[h];exact hn)).trans h
   unfold yQ;rw[if_neg (by omega),if_pos (by rw[hb];exact hn),hb])
  have hE:wE m k=if ¬ iT m.1[k]=0 then iT m.1[k] else if 0<k∧QD m.1[k].1 (m.1.getD (k-1) jQ).1=true then 11 else 0:=by unfold wE;rw[tI hk]
  dsimp only
  rw[L6 (by omega)]
  refine aG (s:=[(false,.int .i64)]) (y:=iT m.1[k]) (YK ..) ?_
  refine lI (fun h=>bad h (by rw[hE,if_pos h])) fun p1=>?_
  refine bZ (fun p3=>?_) fun p3=>hok (by rw[hE,if_neg (fun h=>h p1),if_neg (by omega)])
  have k0:0<k:=by omega
  rw[TN (r:=bQ) hk k0 (by show m.1.length≤1000000;omega)]
  have hg1:m.1.getD (k-1) jQ=m.1[k-1]'(by omega):=tI (by omega)
  exact E5 (fun h=>bad (by decide) (by rw[hE,if_neg (fun h=>h p1),hg1,if_pos ⟨k0,h⟩])) fun h=>hok (by rw[hE,if_neg (fun h=>h p1),hg1,if_neg (fun hc=>by rw[show QD m.1[k].1 (m.1[k-1]'(by omega)).1=false from h] at hc;cases hc.2)])
 ·have w:yQ m=bP (AO2 m) (List.range m.2.length):=by unfold yQ;rw[if_neg (by omega),if_neg (fun h=>h h0)]
  refine qJ (r:=bH) (AO2 m) (by show m.2.length≤1000000;omega) (fun X k hk hprev hok hbad=>?_) fun h0=>is (w.trans h0)
  have hk:k<m.2.length:=hk
  have bad:∀ {n:Int},n≠0→AO2 m k=n→T.v (.int .i64 n)=T.v (.int .i64 (yQ m)):=fun hn h=>is (w.trans ((hbad (by rw[h];exact hn)).trans h))
  have hE:AO2 m k=if ¬ HW m.2[k]=0 then HW m.2[k] else if 0<k∧QD m.2[k].1 (m.2.getD (k-1) zE).1=true then 11 else 0:=by unfold AO2;rw[tI hk]
  dsimp only
  rw[L6 (by omega)]
  refine aG (s:=[(false,.int .i64)]) (y:=HW m.2[k]) (N9 ..) ?_
  refine lI (fun h=>bad h (by rw[hE,if_pos h])) fun p1=>?_
  refine bZ (fun p3=>?_) fun p3=>hok (by rw[hE,if_neg (fun h=>h p1),if_neg (by omega)])
  have k0:0<k:=by omega
  rw[TN (r:=bH) hk k0 (by show m.2.length≤1000000;omega)]
  have hg1:m.2.getD (k-1) zE=m.2[k-1]'(by omega):=tI (by omega)
  exact E5 (fun h=>bad (by decide) (by rw[hE,if_neg (fun h=>h p1),hg1,if_pos ⟨k0,h⟩])) fun h=>hok (by rw[hE,if_neg (fun h=>h p1),hg1,if_neg (fun hc=>by rw[show QD m.2[k].1 (m.2[k-1]'(by omega)).1=false from h] at hc;cases hc.2)])
def fP (m:aH) (n:ByteArray):Option cR:=m.1.find? fun g=>decide (g.1=n)
def okM (m:aH):Bool:=decide (m.1.length≤1000)&&decide (m.2.length≤1000)&&m.1.all fun g=>decide (g.2.2.2.length≤1000)
def C7 {α:Type} (m:aH) (r:α):Option α:=match okM m with
 | true=>some r
 | false=>none
theorem wL {α:Type} {m:aH} {t r:α} (h:C7 m t=some r):okM m=true∧r=t:=by
 unfold C7 at h;split at h
 ·rename_i hc;cases h;exact ⟨hc,rfl⟩
 ·cases h
theorem wM {α:Type} {m:aH} (t:α) (h:okM m=true):C7 m t=some t:=by unfold C7;rw[h]
theorem ALR:uY Tryz.prog 68 1 8:=⟨fun R=>by kernel_rfl,fun fl R=>by kernel_rfl,fun fl a rows R=>by kernel_rfl⟩
noncomputable def rS:List T→Option T:=gS [(false,.li (.int .i64))] (cO (.int .i64) 8)
theorem G4 {u0}:rS [T.sl false (List.map (Sy.enc (.int .i64)) u0)]=cO (.int .i64) 8 u0:=bC (s:=[(false,.li (.int .i64))]) rfl u0 rfl
theorem O9:aN Tryz.prog 68 rS:=mH aR aU ⟨_,_,Tryz.func68,rfl⟩ ALR
noncomputable def APV:Env:=Env.of [(68,.pure rS)]
def ASU:FuncId→Hint:=bV 176 [(2,.inv [.val 8 false (.int .i64)])] (fun _=>aX)
theorem ABP:aQ Tryz.prog APV:=.cons O9 (.nil _)
def BFM:List T:=[T.agg [T.v (.string {data:=#[]}),T.v (.int .i64 0), T.v (.int .i64 0),T.sl false []], T.v (.bool false)]
def JH(a0:aH)(a1:ByteArray)(R:T→Prop):Prop:=a7 (Int×PUnit) (fun X0 s1=>aD (decide (s1.1<(↑(BHQ a0).length:Int))) (aS bQ (BHQ a0) s1.1 fun (y2:cR)=>aD (decide (y2.1=a1)) (aD (decide (s1.1<0)) (R (T.bU BFM)) (aS bQ (BHQ a0) s1.1 fun (y3:cR)=>aI [(false,BFJ.li)] (rS [T.sl false (BHJ y3)]) fun (y4:List Int)=>R (T.bU [T.agg [T.v (.string y3.1),T.v (.int .i64 y3.2.1), T.v (.int .i64 y3.2.2.1), T.sl false (List.map BFJ.enc y4)], T.v (.bool true)]))) (BF1 X0 s1)) (R (T.bU BFM))) (0,())
abbrev MR:Sh:=[(true,aJ),(false,Sy.str)]
def xZ (x:aH×ByteArray):Option T:=C7 x.1 (Sh.enc [(true,bQ),(false,.bool)] (found jQ (fP x.1 x.2)))
noncomputable def fJ:List T→Option T:=gS MR xZ
theorem YI {a0 a1}:fJ [aF true aJ a0,T.v (.string a1)]=xZ (a0,a1):=bC (s:=MR) rfl (a0,a1) rfl
theorem AN7:yL Tryz.prog 144 fJ xZ (b9 MR) JH:=jZ (a1:=(true,aJ)) (a2:=(false,Sy.str)) (sp:=xZ) (F:=JH) (Hs:=ASU) (f:=144) (k:=8) ABP aR aU (aL rfl) ⟨_,_,Tryz.func144,rfl⟩ rfl fun _ _ _=>by kernel_rfl
theorem EV:aN Tryz.prog 144 fJ:=AN7 fun m n r h hb=>by
 obtain ⟨hok,rfl⟩:=wL h
 clear h
 simp only[okM,Bool.and_eq_true,decide_eq_true_eq] at hok
 unfold JH BHQ BHJ BF1 BFM BFJ
 refine bK m.1.length (fun k s=>s=((k:Int),())∧(m.1.drop k).find? (fun s=>decide (s.1=n))=fP m n) ⟨rfl,rfl⟩ ?_
 rintro X k s hk ⟨rfl,hf⟩ hX
 dsimp only
 refine bZ (fun hlt=>?_) fun hge=>?_
 ·rw[List.length_map] at hlt
  have hlt:k<m.1.length:=by omega
  rw[oQ hlt] at hf
  rw[bD (r:=bQ) hlt]
  refine bZ (fun hc=>?_) fun hc=>?_
  ·rw[if_pos (decide_eq_true hc)] at hf
   refine bZ (fun h=>by omega) fun _=>?_
   rw[bD (r:=bQ) hlt]
   have hg:m.1[k].2.2.2.length≤1000:=by
    have:=List.all_eq_true.1 hok.2 _ (List.getElem_mem hlt)
    exact of_decide_eq_true this
   refine aG (s:=[(false,.li (.int .i64))]) (y:=m.1[k].2.2.2) ?_ ?_
   ·rw[G4]
    unfold cO oL
    rw[show (decide (m.1[k].2.2.2.length*8≤140737488355328)&&decide (m.1[k].2.2.2.length≤140737488355328))=true by simp only[Bool.and_eq_true,decide_eq_true_eq];omega]
    rfl
   ·show _=Sh.enc [(true,bQ),(false,.bool)] (found jQ (fP m n))
    rw[←hf];rfl
  ·rw[if_neg (by simpa using hc)] at hf
   exact hX _ hlt ⟨by rw[L6 (by omega)],hf⟩
 ·rw[List.length_map] at hge
  have:k=m.1.length:=by omega
  subst this
  rw[List.drop_length] at hf
  show _=Sh.enc [(true,bQ),(false,.bool)] (found jQ (fP m n))
  rw[←hf];rfl
def tU (m:aH) (n:ByteArray) (t:Int):Bool:=match fP m n with
 | some g=>g.2.2.2.any fun x=>decide (t=x)
 | none=>false
noncomputable def AJ3:Env:=Env.of [(144,.pure fJ)]
def AK4:FuncId→Hint:=bV 326 [(2,.inv [.val 8 false (.int .i64)])] (fun _=>aX)
theorem VJ:aQ Tryz.prog AJ3:=.cons EV (.nil _)
def BFL:Sh:=[(true,bQ),(false,Sy.bool)]
def BGU(s2:Int×PUnit):T:=T.v (.bool (decide (0≤s2.1)))
def D7(a0:aH)(a1:ByteArray)(a2:Int)(R:T→Prop):Prop:=aI BFL (fJ [aF true aJ a0,T.v (.string a1)]) fun (y0:cR×Bool)=>aD y0.2 (a7 (Int×PUnit) (fun X1 s2=>aD (decide (s2.1<(↑(List.map BFJ.enc y0.1.2.2.2).length:Int))) (aS BFJ (List.map BFJ.enc y0.1.2.2.2) s2.1 fun (y3:Int)=>aD (decide (a2=y3)) (R (BGU s2)) (BF1 X1 s2)) (R BFB)) (0,())) (R BFB)
abbrev F3:Sh:=[(true,aJ),(false,Sy.str),(false,(Sy.int IntKind.i64))]
def tY (x:aH×ByteArray×Int):Option T:=C7 x.1 (T.v (.bool (tU x.1 x.2.1 x.2.2)))
noncomputable def jN:List T→Option T:=gS F3 tY
theorem SY {a0 a1 a2}:jN [aF true aJ a0,T.v (.string a1),T.v (.int .i64 a2)]=tY (a0,a1,a2):=bC (s:=F3) rfl (a0,a1,a2) rfl
theorem AFL:Of3 Tryz.prog 169 jN tY (b9 F3) D7:=Z5 (a1:=(true,aJ)) (a2:=(false,Sy.str)) (a3:=(false,(Sy.int IntKind.i64))) (sp:=tY) (F:=D7) (Hs:=AK4) (f:=169) (k:=8) VJ aR aU (aL rfl) ⟨_,_,Tryz.func169,rfl⟩ rfl fun _ _ _ _=>by kernel_rfl
theorem vU {m:aH} (h:okM m=true) (n:ByteArray):fJ [aF true aJ m,T.v (.string n)]=some (Sh.enc [(true,bQ),(false,.bool)] (found jQ (fP m n))):=(YI ..).trans (wM _ h)
theorem AD4:aN Tryz.prog 169 jN:=AFL fun m n t r h hb=>by
 obtain ⟨hok,rfl⟩:=wL h
 clear h
 unfold D7 BGU BF1 BFL BFJ BFB
 refine aG (s:=[(true,bQ),(false,.bool)]) (vU hok n) ?_
 cases hg:fP m n with
 | none =>
  show aD false _ _
  rw[mM]
  exact iI (by unfold tU;rw[hg])
 | some g =>
  show aD true _ _
  rw[jY]
  dsimp only[found]
  have hlen:g.2.2.2.length≤1000:=by
   simp only[okM,Bool.and_eq_true,decide_eq_true_eq] at hok
   exact of_decide_eq_true (List.all_eq_true.1 hok.2 _ (List.mem_of_find?_eq_some hg))
  have w:tU m n t=g.2.2.2.any fun x=>decide (t=x):=by unfold tU;rw[hg]
  refine bK g.2.2.2.length (fun k s=>s=((k:Int),())∧g.2.2.2.any (fun x=>decide (t=x))=(g.2.2.2.drop k).any fun x=>decide (t=x)) ⟨rfl,by rw[List.drop_zero]⟩ ?_
  rintro X k s hk ⟨rfl,hf⟩ hX
  dsimp only
  refine bZ (fun hlt=>?_) fun hge=>iI ?_
  ·rw[List.length_map] at hlt
   have hlt:k<g.2.2.2.length:=by omega
   rw[List.drop_eq_getElem_cons hlt,List.any_cons] at hf
   rw[bD (r:=.int .i64) hlt]
   refine bZ (fun hc=>iI ?_) fun hc=>hX _ hlt ⟨by rw[L6 (by omega)],by rw[hf,decide_eq_false hc,Bool.false_or]⟩
   rw[w,hf,decide_eq_true hc,decide_eq_true (show 0≤(k:Int) by omega)];rfl
  ·rw[List.length_map] at hge
   have:k=g.2.2.2.length:=by omega
   subst this
   rw[w,hf,List.drop_length];rfl
end Go.Pv
namespace Go.Pv
open Go Go.Proofs
abbrev fG (p:a8):Int:=p.2.2.1
abbrev j2 (p:a8):ByteArray:=p.2.2.2.1
abbrev fZ (p:a8):ByteArray:=p.2.2.2.2.1
abbrev nP (p:a8):Int:=p.2.2.2.2.2.1
abbrev kM (p:a8):lL:=p.2.2.2.2.2.2.1
abbrev V7 (p:a8):ByteArray:=p.2.2.2.2.2.2.2.1
abbrev AC0 (p:a8):Int:=p.2.2.2.2.2.2.2.2.1
abbrev GV (p:a8):Int:=p.2.2.2.2.2.2.2.2.2.1
abbrev HO (p:a8):ALD:=p.2.2.2.2.2.2.2.2.2.2.1
abbrev aAt (p:a8):zQ:=p.2.2.2.2.2.2.2.2.2.2.2
def UC (p:a8):Bool:=!decide (nP p=0)||decide (0<(kM p).1.length+(kM p).2.length)
def A3Q (p:a8):Bool:=!decide (V7 p = { data:=#[] }) || !decide (AC0 p=0)
def A51 (p:a8):Bool:=!decide (GV p=0) || !(decide ((HO p).1=0)&&(decide ((HO p).2.1=0)&&decide ((HO p).2.2=0)))
def mR (p:a8):Bool:=if fG p=1 then A3Q p||A51 p else if fG p=2∨fG p=3 then UC p||A51 p else !decide (fZ p = { data:=#[] })||(UC p||A3Q p)
noncomputable def AP2:Env:=Env.of []
def AS0:FuncId→Hint:=fun f=>match f == 139 with|true=>⟨fun _=>.none,fun i j=>match i == 1&&j == 1 with|true=>some [.val 3 false .bool]|false=>match i == 2&&j == 2 with|true=>some [.val 4 false .bool]|false=>match i == 3&&j == 3 with|true=>some [.val 5 false .bool]|false=>none,fun _=>none⟩|false=>aX
theorem ABV:aQ Tryz.prog AP2:=.nil _
def BHS(s3:Bool×PUnit)(R:T→Prop)(s5:Bool×PUnit):Prop:=aD s3.1 (R BFI) (R (T.v (.bool s5.1)))
def JN(a0:a8)(R:T→Prop):Prop:=qO (Bool×PUnit) (fun (X0:Bool×PUnit→Prop)=>aD (!decide (a0.2.2.2.2.2.1=0)) (X0 (true,())) (X0 (decide (0 < IntKind.i64.wrap ((↑(List.map aA.enc a0.2.2.2.2.2.2.1.1).length:Int) + (↑(List.map aA.li.enc a0.2.2.2.2.2.2.1.2).length:Int))), ()))) fun (s1:Bool×PUnit)=>qO (Bool×PUnit) (fun (X2:Bool×PUnit→Prop)=>aD (!decide (a0.2.2.2.2.2.2.2.1 = {data:=#[]})) (X2 (true,())) (X2 (!decide (a0.2.2.2.2.2.2.2.2.1=0),()))) fun (s3:Bool×PUnit)=>qO (Bool×PUnit) (fun (X4:Bool×PUnit→Prop)=>aD (!decide (a0.2.2.2.2.2.2.2.2.2.1=0)) (X4 (true,())) (X4 (!(decide (a0.2.2.2.2.2.2.2.2.2.2.1.1=0) && (decide (a0.2.2.2.2.2.2.2.2.2.2.1.2.1=0) && (decide (a0.2.2.2.2.2.2.2.2.2.2.1.2.2=0)&&true))), ()))) fun (s5:Bool×PUnit)=>aD (decide (a0.2.2.1=1)) (BHS s3 R s5) (aD (decide (a0.2.2.1=2)) (BHS s1 R s5) (aD (decide (a0.2.2.1=3)) (BHS s1 R s5) (aD (decide (a0.2.2.1=4)) (aD (!decide (a0.2.2.2.2.1 = {data:=#[]})) (R BFI) (BHS s1 R s3)) (aD (!decide (a0.2.2.2.2.1 = {data:=#[]})) (R BFI) (BHS s1 R s3)))))
abbrev MX:Sh:=[(true,aK)]
def yB (p:a8):Option T:=some (T.v (.bool (mR p)))
noncomputable def lW:List T→Option T:=gS MX yB
theorem YW {a0}:lW [aF true aK a0]=yB (a0):=bC (s:=MX) rfl (a0) rfl
theorem AOD:rM Tryz.prog 139 lW yB (b9 MX) JN:=gQ (a1:=(true,aK)) (sp:=yB) (F:=JN) (Hs:=AS0) (f:=139) (k:=8) ABV aR aU (aL rfl) ⟨_,_,Tryz.func139,rfl⟩ rfl fun _ _=>by kernel_rfl
theorem TE {a b:Bool} {n:Bool} (h:n=(a||b)):aD a (T.v (.bool true)=T.v (.bool n)) (T.v (.bool b)=T.v (.bool n)):=by
 subst h;cases a<;>rfl
theorem AMP:aN Tryz.prog 139 lW:=AOD fun p r h hb=>by
 have b1:(kM p).1.length≤2 ^ 47:=hb.2.2.2.2.2.2.1.1.1
 have b2:(kM p).2.length≤2 ^ 47:=hb.2.2.2.2.2.2.1.2.1
 cases h
 unfold JN BHS BFI
 have j:∀ {a b:Bool} {K:Bool×PUnit→Prop},K (a||b,())→qO (Bool×PUnit) (fun (X:Bool×PUnit→Prop)=>aD a (X (true,())) (X (b,()))) K:=fun {a b K} hK=>by
  rw[xK];cases a<;>exact hK
 have e1:decide (0<IntKind.i64.wrap (((List.map aA.enc (kM p).1).length:Int)+((List.map aA.li.enc (kM p).2).length:Int)))=decide (0<(kM p).1.length+(kM p).2.length):=by
  rw[List.length_map,List.length_map,bB _ (by omega) (by omega)]
  exact decide_eq_decide.2 (by omega)
 refine j ?_
 refine j ?_
 refine j ?_
 dsimp only
 rw[e1,Bool.and_true]
 refine bZ (fun h=>TE (by unfold mR;rw[if_pos h];rfl)) fun k1=>?_
 refine bZ (fun h=>TE (by unfold mR;rw[if_neg k1,if_pos (.inl h)];rfl)) fun k2=>?_
 refine bZ (fun h=>TE (by unfold mR;rw[if_neg k1,if_pos (.inr h)];rfl)) fun k3=>?_
 have w:mR p=(!decide (fZ p = { data:=#[] })||(UC p||A3Q p)):=by
  unfold mR;rw[if_neg k1,if_neg];rintro (h|h)
  ·exact k2 h
  ·exact k3 h
 have fin:aD (!decide (fZ p = { data:=#[] })) (T.v (.bool true)=T.v (.bool (mR p))) (aD (UC p) (T.v (.bool true)=T.v (.bool (mR p))) (T.v (.bool (A3Q p))=T.v (.bool (mR p)))):=by
  rw[w]
  cases (!decide (fZ p = { data:=#[] })) with
  | true=>rfl
  | false=>exact TE rfl
 exact bZ (fun _=>fin) fun _=>fin
def AI4 (m:aH) (n:ByteArray):Bool:=match NB m n with
 | some s=>decide (1≤s.2.1)&&decide (s.2.1≤1000000)&&(decide (1≤s.2.2.1)&&decide (s.2.2.1≤2000))
 | none=>false
def fX (p:a8) (m:aH):Bool:=if fG p=4 then true else match fP m (fZ p) with
 | none=>false
 | some g=>decide (1000≤g.2.1)&&decide (g.2.1≤20000)&&(if fG p=1 then decide (1≤nP p)&&decide (nP p≤120)&&tU m (fZ p) (nP p) else AI4 m (V7 p))
noncomputable def A0I:Env:=Env.of [(144,.pure fJ),(145,.pure cK),(169,.pure jN)]
def A1Y:FuncId→Hint:=fun _=>aX
theorem AKL:aQ Tryz.prog A0I:=.cons EV (.cons LA (.cons AD4 (.nil _)))
def BFH:Sh:=[(true,bH),(false,Sy.bool)]
def BGX(y2:cA×Bool)(R:T→Prop):Prop:=aD y2.2 (aD (decide (1≤y2.1.2.1)) (aD (decide (y2.1.2.1≤1000000)) (aD (decide (1≤y2.1.2.2.1)) (R (T.v (.bool (decide (y2.1.2.2.1≤2000))))) (R BFB)) (R BFB)) (R BFB)) (R BFB)
def BFW(a1:aH)(a0:a8)(R:T→Prop):Prop:=aI BFH (cK [aF true aJ a1, T.v (.string a0.2.2.2.2.2.2.2.1)]) fun (y3:cA×Bool)=>BGX y3 R
def BGV(a0:a8)(a1:aH)(R:T→Prop):Prop:=aD (decide (1≤a0.2.2.2.2.2.1)) (aD (decide (a0.2.2.2.2.2.1≤120)) (aI BFF (jN [aF true aJ a1,T.v (.string a0.2.2.2.2.1), T.v (.int .i64 a0.2.2.2.2.2.1)]) fun (y1:Bool)=>R (T.v (.bool y1))) (R BFB)) (R BFB)
def BHU(a0:a8)(a1:aH)(R:T→Prop):Prop:=aD (decide (a0.2.2.1=3)) (BFW a1 a0 R) (aD (decide (a0.2.2.1=4)) (BFW a1 a0 R) (BFW a1 a0 R))
def BHW(a1:aH)(a0:a8):List T:=[aF true aJ a1,T.v (.string a0.2.2.2.2.1)]
def BF4(a1:aH)(a0:a8)(R:T→Prop):Prop:=aI BFL (fJ (BHW a1 a0)) fun (y6:cR×Bool)=>aD (!y6.2) (R BFB) (aD (decide (1000≤y6.1.2.1)) (aD (!decide (y6.1.2.1≤20000)) (R BFB) (aD (decide (a0.2.2.1=1)) (BGV a0 a1 R) (aD (decide (a0.2.2.1=2)) (BFW a1 a0 R) (BHU a0 a1 R)))) (R BFB))
def RT(a0:a8)(a1:aH)(R:T→Prop):Prop:=aD (decide (a0.2.2.1=1)) (aI BFL (fJ (BHW a1 a0)) fun (y0:cR×Bool)=>aD (!y0.2) (R BFB) (aD (decide (1000≤y0.1.2.1)) (aD (!decide (y0.1.2.1≤20000)) (R BFB) (aD (decide (a0.2.2.1=1)) (BGV a0 a1 R) (aD (decide (a0.2.2.1=2)) (aI BFH (cK [aF true aJ a1,T.v (.string a0.2.2.2.2.2.2.2.1)]) fun (y2:cA×Bool)=>BGX y2 R) (BHU a0 a1 R)))) (R BFB))) (aD (decide (a0.2.2.1=2)) (BF4 a1 a0 R) (aD (decide (a0.2.2.1=3)) (BF4 a1 a0 R) (aD (decide (a0.2.2.1=4)) (R BFI) (BF4 a1 a0 R))))
abbrev T2:Sh:=[(true,aK),(true,aJ)]
def DN (x:a8×aH):Option T:=C7 x.2 (T.v (.bool (fX x.1 x.2)))
noncomputable def oF:List T→Option T:=gS T2 DN
theorem AEO {a0 a1}:oF [aF true aK a0,aF true aJ a1]=DN (a0,a1):=bC (s:=T2) rfl (a0,a1) rfl
theorem AX3:yL Tryz.prog 140 oF DN (b9 T2) RT:=jZ (a1:=(true,aK)) (a2:=(true,aJ)) (sp:=DN) (F:=RT) (Hs:=A1Y) (f:=140) (k:=8) AKL aR aU (aL rfl) ⟨_,_,Tryz.func140,rfl⟩ rfl fun _ _ _=>by kernel_rfl
theorem B3 (m:aH) (n:ByteArray):cK [aF true aJ m,T.v (.string n)]=some (Sh.enc [(true,bH),(false,.bool)] (found zE (NB m n))):=S6 ..
theorem AUZ:aN Tryz.prog 140 oF:=AX3 fun p m r h hb=>by
 obtain ⟨hok,rfl⟩:=wL h
 replace hok:okM m=true:=hok
 clear h
 have is:∀ {n:Bool},fX p m=n→T.v (.bool n)=T.v (.bool (fX p m)):=fun h=>by rw[h]
 unfold RT BF4 BHW BHU BGV BFW BGX BFL BFI BFH BFF BFB
 have sec:∀ {g:cR},fP m (fZ p)=some g→¬ fG p=4→¬ fG p=1→1000≤g.2.1→g.2.1≤20000 →
   aI [(true,bH),(false,Sy.bool)] (cK [aF true aJ m,T.v (.string (V7 p))])
    fun (y2:cA×Bool) =>
    aD y2.2
     (aD (decide (1≤y2.1.2.1))
      (aD (decide (y2.1.2.1≤1000000))
       (aD (decide (1≤y2.1.2.2.1))
        (T.v (.bool (decide (y2.1.2.2.1≤2000)))=T.v (.bool (fX p m)))
        (T.v (.bool false)=T.v (.bool (fX p m))))
       (T.v (.bool false)=T.v (.bool (fX p m))))
      (T.v (.bool false)=T.v (.bool (fX p m))))
     (T.v (.bool false)=T.v (.bool (fX p m))):=by
  intro g hg k4 k1 d1 d2
  have w:fX p m=AI4 m (V7 p):=by
   unfold fX;rw[if_neg k4,hg];dsimp only;rw[decide_eq_true d1,decide_eq_true d2,if_neg k1];rfl
  refine aG (s:=[(true,bH),(false,.bool)]) (B3 m _) ?_
  cases hs:NB m (V7 p) with
  | none =>
   show aD false _ _
   rw[mM];exact is (by rw[w];unfold AI4;rw[hs])
  | some s =>
   show aD true _ _
   rw[jY]
   dsimp only[found]
   have w2:fX p m=(decide (1≤s.2.1)&&decide (s.2.1≤1000000)&&(decide (1≤s.2.2.1)&&decide (s.2.2.1≤2000))):=by rw[w];unfold AI4;rw[hs]
   refine bZ (fun h1=>bZ (fun h2=>bZ (fun h3=>is ?_) fun h3=>is ?_) fun h2=>is ?_) fun h1=>is ?_
   ·rw[w2,decide_eq_true h1,decide_eq_true h2,decide_eq_true h3];rfl
   ·rw[w2,decide_eq_true h1,decide_eq_true h2,decide_eq_false h3];rfl
   ·rw[w2,decide_eq_true h1,decide_eq_false h2];rfl
   ·rw[w2,decide_eq_false h1];rfl
 have plate:∀ {g:cR},fP m (fZ p)=some g→fG p=1→1000≤g.2.1→g.2.1≤20000 →
   aD (decide (1≤nP p)) (aD (decide (nP p≤120)) (aI [(false,Sy.bool)] (jN [aF true aJ m,T.v (.string (fZ p)),T.v (.int .i64 (nP p))]) fun (y1:Bool)=>T.v (.bool y1)=T.v (.bool (fX p m))) (T.v (.bool false)=T.v (.bool (fX p m)))) (T.v (.bool false)=T.v (.bool (fX p m))):=by
  intro g hg k1 d1 d2
  have w:fX p m=(decide (1≤nP p)&&decide (nP p≤120)&&tU m (fZ p) (nP p)):=by
   unfold fX;rw[if_neg (by omega),hg];dsimp only;rw[decide_eq_true d1,decide_eq_true d2,if_pos k1];rfl
  refine bZ (fun h1=>bZ (fun h2=>?_) fun h2=>is ?_) fun h1=>is ?_
  ·refine aG (s:=[(false,.bool)]) (y:=tU m (fZ p) (nP p)) ((SY ..).trans (wM _ hok)) (is ?_)
   rw[w,decide_eq_true h1,decide_eq_true h2];rfl
  ·rw[w,decide_eq_true h1,decide_eq_false h2];rfl
  ·rw[w,decide_eq_false h1];rfl
 by_cases k4:p.2.2.1=4
 ·have w:fX p m=true:=by unfold fX;rw[if_pos k4]
  repeat' first
   | (exfalso;omega)
   | exact is w
   | refine bZ (fun h=>?_) (fun h=>?_)
 ·have hnone:fP m (fZ p)=none→fX p m=false:=fun h=>by unfold fX;rw[if_neg k4,h]
  have dens:∀ {g:cR},fP m (fZ p)=some g→¬ (1000≤g.2.1∧g.2.1≤20000)→fX p m=false:=fun {g} hg h=>by
   unfold fX;rw[if_neg k4,hg];dsimp only
   by_cases h1:1000≤g.2.1
   ·rw[decide_eq_false (show ¬ g.2.1≤20000 by omega),Bool.and_false,Bool.false_and]
   ·rw[decide_eq_false h1,Bool.false_and,Bool.false_and]
  have call:∀ {K:cR×Bool→Prop},(fP m (fZ p)=none→K (jQ,false))→(∀ g,fP m (fZ p)=some g→K (g,true))→aI [(true,bQ),(false,Sy.bool)] (fJ [aF true aJ m,T.v (.string p.2.2.2.2.1)]) K:=fun {K} h1 h2=>by
   refine aG (s:=[(true,bQ),(false,.bool)]) (vU hok _) ?_
   cases hg:fP m (fZ p) with
   | none=>exact h1 hg
   | some g=>exact h2 g hg
  have body:∀ {K:cR×Bool→Prop},(∀ g,fP m (fZ p)=some g→1000≤g.2.1→g.2.1≤20000→K (g,true))→aI [(true,bQ),(false,Sy.bool)] (fJ [aF true aJ m,T.v (.string p.2.2.2.2.1)]) fun (y0:cR×Bool)=>aD (!y0.2) (T.v (.bool false)=T.v (.bool (fX p m))) (aD (decide (1000≤y0.1.2.1)) (aD (!decide (y0.1.2.1≤20000)) (T.v (.bool false)=T.v (.bool (fX p m))) (K y0)) (T.v (.bool false)=T.v (.bool (fX p m)))):=fun {K} hK=>by
   refine call (fun hn=>?_) fun g hg=>?_
   ·show aD true _ _
    rw[jY];exact is (hnone hn)
   ·show aD false _ _
    rw[mM]
    exact bZ (fun d1=>lI (fun d2=>is (dens hg (fun h=>d2 h.2))) fun d2=>hK g hg d1 d2) fun d1=>is (dens hg (fun h=>d1 h.1))
  refine bZ (fun h=>body fun g hg d1 d2=>?_) fun h1=>bZ (fun h=>body fun g hg d1 d2=>?_) fun h2=>bZ (fun h=>body fun g hg d1 d2=>?_) fun h3=>bZ (fun h=>absurd h k4) fun _=>body fun g hg d1 d2=>?_
  all_goals
   repeat' first
    | (exfalso;omega)
    | exact plate hg (by assumption) d1 d2
    | exact sec hg k4 (by assumption) d1 d2
    | exact sec hg k4 (by intro h';have h'':p.2.2.1=1:=h';omega) d1 d2
    | refine bZ (fun h=>?_) (fun h=>?_)
def mD (p:a8) (m:aH):Int:=if pF p.1=false∨pF (j2 p)=false then 6 else if ¬ (1≤p.2.1∧p.2.1≤1000) then 9 else if ¬ (fG p=1∨fG p=2∨fG p=3∨fG p=4) then 10 else if mR p=true then 2 else if fX p m=false then 23 else
 if fG p=1∧¬ wO (kM p)=0 then wO (kM p) else if (fG p=2∨fG p=3)∧¬ (1≤AC0 p∧AC0 p≤32768) then 9 else if fG p=4∧¬ (1≤GV p∧GV p≤1099511627776∧zH (HO p)=true) then 9 else if rE (aAt p)=false then 9 else 0
noncomputable def AJ6:Env:=Env.of [(82,.pure dV),(139,.pure lW),(140,.pure oF),(141,.pure iK),(143,.pure cB)]
def AK7:FuncId→Hint:=fun _=>aX
theorem VM:aQ Tryz.prog AJ6:=.cons BM (.cons AMP (.cons AUZ (.cons PD (.cons AMX (.nil _)))))
def BFK:T:=T.v (.int .i64 2)
def BFS:T:=T.v (.int .i64 23)
def BGK(a0:a8)(R:T→Prop):Prop:=aI BFF (cB [aF true eT a0.2.2.2.2.2.2.2.2.2.2.2]) fun (y5:Bool)=>aD (!y5) (R BFE) (R BFG)
def BHL(a0:a8)(R:T→Prop):Prop:=aD (decide (1≤a0.2.2.2.2.2.2.2.2.1)) (aD (!decide (a0.2.2.2.2.2.2.2.2.1≤32768)) (R BFE) (BGK a0 R)) (R BFE)
def BFV(a0:a8)(R:T→Prop)(a1:aH):Prop:=aI BFF (lW [aF true aK a0]) fun (y2:Bool)=>aD y2 (R BFK) (aI BFF (oF [aF true aK a0,aF true aJ a1]) fun (y3:Bool)=>aD (!y3) (R BFS) (aD (decide (a0.2.2.1=1)) (aI BFD (iK [aF true gW a0.2.2.2.2.2.2.1]) fun (y4:Int)=>aD (!decide (y4=0)) (R (BGT y4)) (BGK a0 R)) (aD (decide (a0.2.2.1=2)) (BHL a0 R) (aD (decide (a0.2.2.1=3)) (BHL a0 R) (aD (decide (a0.2.2.1=4)) (aD (decide (1≤a0.2.2.2.2.2.2.2.2.2.1)) (aD (!decide (a0.2.2.2.2.2.2.2.2.2.1≤1099511627776)) (R BFE) (aI BFF (cB [T.agg [T.v (.int .i64 a0.2.2.2.2.2.2.2.2.2.2.1.1), T.v (.int .i64 a0.2.2.2.2.2.2.2.2.2.2.1.2.1), T.v (.int .i64 a0.2.2.2.2.2.2.2.2.2.2.1.2.2), T.v (.int .i64 0)]]) fun (y8:Bool)=>aD (!y8) (R BFE) (BGK a0 R))) (R BFE)) (BGK a0 R))))))
def EA(a0:a8)(a1:aH)(R:T→Prop):Prop:=aI BFF (dV [T.v (.string a0.1)]) fun (y0:Bool)=>aD (!y0) (R BFO) (aI BFF (dV [T.v (.string a0.2.2.2.1)]) fun (y1:Bool)=>aD (!y1) (R BFO) (aD (decide (1≤a0.2.1)) (aD (!decide (a0.2.1≤1000)) (R BFE) (aD (decide (a0.2.2.1=1)) (BFV a0 R a1) (aD (decide (a0.2.2.1=2)) (BFV a0 R a1) (aD (decide (a0.2.2.1=3)) (BFV a0 R a1) (aD (decide (a0.2.2.1=4)) (BFV a0 R a1) (R (T.v (.int .i64 10)))))))) (R BFE)))
abbrev F6:Sh:=[(true,aK),(true,aJ)]
def uB (x:a8×aH):Option T:=C7 x.2 (T.v (Value.int .i64 (mD x.1 x.2)))
noncomputable def lD:List T→Option T:=gS F6 uB
theorem S2 {a0 a1}:lD [aF true aK a0,aF true aJ a1]=uB (a0,a1):=bC (s:=F6) rfl (a0,a1) rfl
theorem AFO:yL Tryz.prog 106 lD uB (b9 F6) EA:=jZ (a1:=(true,aK)) (a2:=(true,aJ)) (sp:=uB) (F:=EA) (Hs:=AK7) (f:=106) (k:=8) VM aR aU (aL rfl) ⟨_,_,Tryz.func106,rfl⟩ rfl fun _ _ _=>by kernel_rfl
theorem K9:aN Tryz.prog 106 lD:=AFO fun p m r h hb=>by
 obtain ⟨hok,rfl⟩:=wL h
 replace hok:okM m=true:=hok
 clear h hb
 have is:∀ {n:Int},mD p m=n→T.v (.int .i64 n)=T.v (.int .i64 (mD p m)):=fun h=>by rw[h]
 unfold EA BFV BHL BGT BGK BFS BFO BFK BFG BFF BFE BFD
 rw[mL]
 refine kQ (fun h=>is (by unfold mD;rw[if_pos (.inl h)])) fun i1=>?_
 rw[mL]
 refine kQ (fun h=>is (by unfold mD;rw[if_pos (.inr h)])) fun i2=>?_
 have n1:¬ (pF p.1=false∨pF (j2 p)=false):=by
  rintro (h|h)
  ·rw[i1] at h;cases h
  ·rw[show pF (j2 p)=true from i2] at h;cases h
 have r9:¬ (1≤p.2.1∧p.2.1≤1000)→T.v (.int .i64 9)=T.v (.int .i64 (mD p m)):=fun h=>is (by unfold mD;rw[if_neg n1,if_pos h])
 refine bZ (fun v1=>lI (fun h=>r9 (fun h2=>h h2.2)) fun v2=>?_) fun h=>r9 (fun h2=>h h2.1)
 have n2:¬ ¬ (1≤p.2.1∧p.2.1≤1000):=fun h=>h ⟨v1,v2⟩
 have w1:mD p m=if ¬ (fG p=1∨fG p=2∨fG p=3∨fG p=4) then 10 else if mR p=true then 2 else if fX p m=false then 23 else if fG p=1∧¬ wO (kM p)=0 then wO (kM p) else if (fG p=2∨fG p=3)∧¬ (1≤AC0 p∧AC0 p≤32768) then 9 else if fG p=4∧¬ (1≤GV p∧GV p≤1099511627776∧zH (HO p)=true) then 9 else if rE (aAt p)=false then 9 else 0:=by
  unfold mD;rw[if_neg n1,if_neg n2]
 have spare:∀ {K:Bool→Prop},K (mR p)→aI [(false,Sy.bool)] (lW [aF true aK p]) K:=fun h=>aG (s:=[(false,.bool)]) (y:=mR p) (YW ..) h
 have made:∀ {K:Bool→Prop},K (fX p m)→aI [(false,Sy.bool)] (oF [aF true aK p,aF true aJ m]) K:=fun h=>aG (s:=[(false,.bool)]) (y:=fX p m) ((AEO ..).trans (wM _ hok)) h
 have place:∀ {K:Bool→Prop},K (rE (aAt p))→aI [(false,Sy.bool)] (cB [aF true eT (aAt p)]) K:=fun h=>aG (s:=[(false,.bool)]) (y:=rE (aAt p)) (G9 ..) h
 have near:∀ {K:Bool→Prop},K (zH (HO p))→aI [(false,Sy.bool)] (cB [aF true eT (HO p,0)]) K:=fun {K} h=>aG (s:=[(false,.bool)]) (y:=rE (HO p,0)) (G9 ..) (by
  rw[show rE (HO p,0)=zH (HO p) by unfold rE;rw[show decide (((HO p,(0:Int)):zQ).2=AFC ((HO p,(0:Int)):zQ).2)=true from rfl,Bool.and_true]];exact h)
 have reg:∀ {K:Int→Prop},K (wO (kM p))→aI [(false,Sy.int IntKind.i64)] (iK [aF true gW (kM p)]) K:=fun h=>aG (s:=[(false,.int .i64)]) (G5 _) h
 repeat' first
  | (exfalso;omega)
  | refine spare ?_
  | refine made ?_
  | refine reg ?_
  | refine place ?_
  | refine near ?_
  | refine lI (fun h=>?_) (fun h=>?_)
  | refine bZ (fun h=>?_) (fun h=>?_)
  | refine kQ (fun h=>?_) (fun h=>?_)
  | refine E5 (fun h=>?_) (fun h=>?_)
 all_goals (refine is ?_;clear spare made place near reg is r9;rw[w1];clear w1 n1 n2 i1 i2;simp_all;try (intros;exfalso;simp only[AC0,GV] at *;omega))
theorem B2 {m:aH} (h:okM m=true) (p:a8):lD [aF true aK p,aF true aJ m]=some (Sh.enc [(false,.int .i64)] (mD p m)):=(S2 ..).trans (wM _ h)
def AEW (m:aH) (n:ByteArray):cR:=(fP m n).getD jQ
def BD4 (m:aH) (n:ByteArray):cA:=(NB m n).getD zE
theorem AH4 {α:Type} {no:α} {o:Option α}:(found no o).1=o.getD no:=by cases o<;>rfl
def P7 (p:a8) (m:aH):Int:=if fG p=1 then IntKind.i64.wrap ((IntKind.i64.wrap (IntKind.i64.wrap (AAJ (kM p)*nP p)*(AEW m (fZ p)).2.1)).tdiv 2000000) else if fG p=2∨fG p=3 then IntKind.i64.wrap ((IntKind.i64.wrap (IntKind.i64.wrap ((BD4 m (V7 p)).2.1*AC0 p)*(AEW m (fZ p)).2.1)).tdiv 1000000) else GV p
def sE (p:a8) (m:aH):Int×Int:=if mD p m=0 then (P7 p m,0) else (0,mD p m)
noncomputable def AP3:Env:=Env.of [(106,.pure lD),(144,.pure fJ),(145,.pure cK),(146,.pure sA)]
def AS1:FuncId→Hint:=fun _=>aX
theorem ABW:aQ Tryz.prog AP3:=.cons K9 (.cons EV (.cons LA (.cons AMS (.nil _))))
def BHA(R:T→Prop)(y2:cA×Bool)(a0:a8)(y1:cR×Bool):Prop:=bN true (R (T.bU [T.v (.int .i64 (IntKind.i64.wrap ((IntKind.i64.wrap (IntKind.i64.wrap (y2.1.2.1*a0.2.2.2.2.2.2.2.2.1) * y1.1.2.1)).tdiv 1000000))), T.v (.int .i64 0)]))
def BHY(a0:a8):List T:=[T.v (.int .i64 a0.2.2.2.2.2.2.2.2.2.1), T.v (.int .i64 0)]
def JO(a0:a8)(a1:aH)(R:T→Prop):Prop:=aI BFD (lD [aF true aK a0,aF true aJ a1]) fun (y0:Int)=>aD (!decide (y0=0)) (R (T.bU [T.v (.int .i64 0),T.v (.int .i64 y0)])) (aI BFL (fJ (BHW a1 a0)) fun (y1:cR×Bool)=>aI BFH (cK [aF true aJ a1,T.v (.string a0.2.2.2.2.2.2.2.1)]) fun (y2:cA×Bool)=>aD (decide (a0.2.2.1=1)) (aI BFD (sA [aF true gW a0.2.2.2.2.2.2.1]) fun (y3:Int)=>bN true (R (T.bU [T.v (.int .i64 (IntKind.i64.wrap ((IntKind.i64.wrap (IntKind.i64.wrap (y3*a0.2.2.2.2.2.1)*y1.1.2.1)).tdiv 2000000))), T.v (.int .i64 0)]))) (aD (decide (a0.2.2.1=2)) (BHA R y2 a0 y1) (aD (decide (a0.2.2.1=3)) (BHA R y2 a0 y1) (aD (decide (a0.2.2.1=4)) (R (T.bU (BHY a0))) (R (T.bU (BHY a0)))))))
abbrev MY:Sh:=[(true,aK),(true,aJ)]
abbrev AAH:Sh:=[(false,Sy.int IntKind.i64),(false,Sy.int IntKind.i64)]
def yC (x:a8×aH):Option T:=C7 x.2 (Sh.enc AAH (sE x.1 x.2))
noncomputable def r6:List T→Option T:=gS MY yC
theorem YX {a0 a1}:r6 [aF true aK a0,aF true aJ a1]=yC (a0,a1):=bC (s:=MY) rfl (a0,a1) rfl
theorem AOE:yL Tryz.prog 107 r6 yC (b9 MY) JO:=jZ (a1:=(true,aK)) (a2:=(true,aJ)) (sp:=yC) (F:=JO) (Hs:=AS1) (f:=107) (k:=8) ABW aR aU (aL rfl) ⟨_,_,Tryz.func107,rfl⟩ rfl fun _ _ _=>by kernel_rfl
theorem AMQ:aN Tryz.prog 107 r6:=AOE fun p m r h hb=>by
 obtain ⟨hok,rfl⟩:=wL h
 replace hok:okM m=true:=hok
 clear h hb
 have is:∀ {a b:Int},sE p m=(a,b)→T.bU [T.v (.int .i64 a),T.v (.int .i64 b)]=Sh.enc AAH (sE p m):=fun h=>by rw[h];rfl
 unfold JO BHY BHA BHW BFL BFH BFD
 refine aG (s:=[(false,.int .i64)]) (B2 hok p) ?_
 refine lI (fun h=>is (by unfold sE;rw[if_neg h])) fun h=>?_
 refine aG (s:=[(true,bQ),(false,.bool)]) (vU hok _) ?_
 refine aG (s:=[(true,bH),(false,.bool)]) (B3 m _) ?_
 have w:sE p m=(P7 p m,0):=by unfold sE;rw[if_pos h]
 have eg:(found jQ (fP m (fZ p))).1=AEW m (fZ p):=AH4
 have es:(found zE (NB m (V7 p))).1=BD4 m (V7 p):=AH4
 refine bZ (fun k1=>?_) fun k1=>?_
 ·refine aG (s:=[(false,.int .i64)]) (Y3 _) ?_
  refine ⟨rfl,is ?_⟩
  rw[w];unfold P7;rw[if_pos k1,←eg]
 refine bZ (fun k2=>⟨rfl,is ?_⟩) fun k2=>?_
 ·rw[w];unfold P7;rw[if_neg k1,if_pos (.inl k2),←eg,←es]
 refine bZ (fun k3=>⟨rfl,is ?_⟩) fun k3=>?_
 ·rw[w];unfold P7;rw[if_neg k1,if_pos (.inr k3),←eg,←es]
 have fin:sE p m=(GV p,0):=by
  rw[w];unfold P7;rw[if_neg k1,if_neg];rintro (h|h)
  ·exact k2 h
  ·exact k3 h
 exact bZ (fun _=>is fin) fun _=>is fin
theorem YY {m:aH} (h:okM m=true) (p:a8):r6 [aF true aK p,aF true aJ m]=some (Sh.enc [(false,.int .i64),(false,.int .i64)] (sE p m)):=(YX ..).trans (wM _ h)
end Go.Pv
namespace Go.Pv
open Go Go.Proofs
def mX (a0:aB) (m1:List (ByteArray×Int)) (m2:List (ByteArray×Int)) (m3:List (ByteArray×Int)) (m4:List (ByteArray×Int)) (a5:aH):List T:=[NQ a0 m1 m2 m3 m4,T.agg (aJ.enc a5)]
noncomputable def I4:Env:=Env.of [(106,.pure lD),(107,.pure r6)]
def V4:FuncId→Hint:=bV 61 [(2,.inv [.val 23 false (.int .i64)]),(13,.inv [.val 10 false (.int .i64),.val 54 false (.int .i64)])] (fun _=>aX)
theorem ABN:aQ Tryz.prog I4:=.cons K9 (.cons AMQ (.nil _))
def BFT:T:=T.v (.int .i64 8)
def BF2(a0:aB):List (List T):=List.map aK.enc a0.2.2.1
def JF(a0:aB)(m1:List (ByteArray×Int))(m2:List (ByteArray×Int))(m3:List (ByteArray×Int))(m4:List (ByteArray×Int))(a5:aH)(R:T→Prop):Prop:=a7 (Int×PUnit) (fun X0 s1=>aD (decide (s1.1<(↑(BF2 a0).length:Int))) (aS aK (BF2 a0) s1.1 fun (y2:a8)=>aI BFD (lD [aF true aK y2,aF true aJ a5]) fun (y3:Int)=>aD (!decide (y3=0)) (R (BGT y3)) (gH TypeDesc.string (Value.string y2.2.2.2.1) (pT (bI m1)) false BFJ (R BFT) fun (i4:Nat) (y5:Int)=>X0 (IntKind.i64.wrap (s1.1+1),()))) (a7 (Int×Int×PUnit) (fun X6 s7=>aD (decide (s7.2.1<(↑(BF2 a0).length:Int))) (aS aK (BF2 a0) s7.2.1 fun (y8:a8)=>aI [(false,Sy.int IntKind.i64),(false,Sy.int IntKind.i64)] (r6 [aF true aK y8,aF true aJ a5]) fun (y9:aO)=>aD (decide (1099511627776<IntKind.i64.wrap (s7.1+y9.1))) (R (T.v (.int .i64 13))) (X6 (IntKind.i64.wrap (s7.1+y9.1),IntKind.i64.wrap (s7.2.1+1),()))) (R BFG)) (0,0,()))) (0,())
theorem VW ( a0 m1 m2 m3 m4 a5 R):dH bR Tryz.prog I4 V4 8 61 (mX a0 m1 m2 m3 m4 a5) R=JF a0 m1 m2 m3 m4 a5 R:=by kernel_rfl
theorem Q8 (x y:aB×MP×MP×MP×MP×aH) (h:mX x.1 x.2.1 x.2.2.1 x.2.2.2.1 x.2.2.2.2.1 x.2.2.2.2.2=mX y.1 y.2.1 y.2.2.1 y.2.2.2.1 y.2.2.2.2.1 y.2.2.2.2.2):x=y:=by
 obtain ⟨h1,h2⟩:=List.cons.inj h
 have:=pP (x:=(x.1,x.2.1,x.2.2.1,x.2.2.2.1,x.2.2.2.2.1)) (y:=(y.1,y.2.1,y.2.2.1,y.2.2.2.1,y.2.2.2.2.1)) h1
 have h2:=Sy.cY aJ _ _ (T.agg.inj (List.cons.inj h2).1)
 simp only[Prod.mk.injEq] at this
 obtain ⟨e1,e2,e3,e4,e5⟩:=this
 exact Prod.ext e1 (Prod.ext e2 (Prod.ext e3 (Prod.ext e4 (Prod.ext e5 h2))))
def fF (d:aB) (m:aH) (p:a8):Int:=if mD p m=0 then (if (iC d (j2 p)).isNone=true then 8 else 0) else mD p m
def pO (m:aH):List a8→Int→Int
 | [],_=>0
 | p::l,s=>if 1099511627776<IntKind.i64.wrap (s+(sE p m).1) then 13 else pO m l (IntKind.i64.wrap (s+(sE p m).1))
def iV (d:aB) (m:aH):Int:=if bP (fF d m) d.2.2.1=0 then pO m d.2.2.1 0 else bP (fF d m) d.2.2.1
def sK (x:aB×MP×MP×MP×MP×aH):Option T:=match okM x.2.2.2.2.2 with
 | true=>uM (x.1,x.2.1,x.2.2.1,x.2.2.2.1,x.2.2.2.2.1) (T.v (Value.int .i64 (iV x.1 x.2.2.2.2.2)))
 | false=>none
noncomputable def rY:List T→Option (T):=gA (fun (x:aB×(List (ByteArray×Int))×(List (ByteArray×Int))×(List (ByteArray×Int))×(List (ByteArray×Int))×aH)=>mX x.1 x.2.1 x.2.2.1 x.2.2.2.1 x.2.2.2.2.1 x.2.2.2.2.2) sK
theorem XW (a0:aB) (m1:List (ByteArray×Int)) (m2:List (ByteArray×Int)) (m3:List (ByteArray×Int)) (m4:List (ByteArray×Int)) (a5:aH):rY (mX a0 m1 m2 m3 m4 a5)=sK (a0,m1,m2,m3,m4,a5):=dS (A:=(fun (x:aB×(List (ByteArray×Int))×(List (ByteArray×Int))×(List (ByteArray×Int))×(List (ByteArray×Int))×aH)=>mX x.1 x.2.1 x.2.2.1 x.2.2.2.1 x.2.2.2.2.1 x.2.2.2.2.2)) Q8 (a0,m1,m2,m3,m4,a5)
theorem AN5 (h:∀ (a0:aB) (m1:List (ByteArray×Int)) (m2:List (ByteArray×Int)) (m3:List (ByteArray×Int)) (m4:List (ByteArray×Int)) (a5:aH) (r:T),sK (a0,m1,m2,m3,m4,a5)=some r→(∀ t∈mX a0 m1 m2 m3 m4 a5,Bd t)→JF a0 m1 m2 m3 m4 a5 (fun y=>y=r)):aN Tryz.prog 61 rY :=
 b7 (E:=I4) (Hs:=V4) ABN aR aU (aL rfl) 8 ⟨_,_,Tryz.func61,rfl⟩ fun x r h1 h2=>by
  rw[VW]
  exact h x.1 x.2.1 x.2.2.1 x.2.2.2.1 x.2.2.2.2.1 x.2.2.2.2.2 r h1 h2
theorem AMK:aN Tryz.prog 61 rY:=AN5 fun d m1 m2 m3 m4 m r h hb=>by
 unfold sK at h
 split at h
 case h_2=>cases h
 rename_i hok
 replace hok:okM m=true:=hok
 obtain ⟨hx,hs,rfl⟩:=nH h
 simp only[Prod.mk.injEq,true_and] at hx
 obtain ⟨rfl,rfl,rfl,rfl⟩:=hx
 replace hs:mE d:=hs
 clear h hb
 have is:∀ {n:Int},iV d m=n→T.v (.int .i64 n)=T.v (.int .i64 (iV d m)):=fun h=>by rw[h]
 unfold JF BF2 BGT BFT BFJ BFG BFD
 refine o9 (r:=aK) (fF d m) hs.p (fun X s y hy hgo hbad=>?_) fun h0=>?_
 ·have bad:∀ {n:Int},n≠0→fF d m y=n→T.v (.int .i64 n)=T.v (.int .i64 (iV d m)):=fun hn h=>by
   have h1:=hbad (by rw[h];exact hn)
   refine is ?_
   unfold iV
   rw[if_neg (by rw[h1,h];exact hn),h1,h]
  refine aG (s:=[(false,.int .i64)]) (B2 hok y) ?_
  refine lI (fun h=>bad h (by unfold fF;rw[if_neg h])) fun h=>?_
  refine ixK (fun hn=>bad (by decide) ?_) fun i j hj hn=>hgo ?_
  ·have hn:iC d (j2 y)=none:=hn
   unfold fF;rw[if_pos h,hn];rfl
  ·have hn:iC d (j2 y)=some d.2.1[j]:=hn
   unfold fF;rw[if_pos h,hn];rfl
 ·have w:iV d m=pO m d.2.2.1 0:=by unfold iV;rw[if_pos h0]
  clear h0
  have hl:=hs.p
  generalize d.2.2.1=l at w hl ⊢
  refine bK l.length (fun k s=>s.2.1=(k:Int)∧pO m (l.drop k) s.1=iV d m) ⟨rfl,by rw[w];rfl⟩ ?_
  rintro X k ⟨s,i,u⟩ hk ⟨rfl,he⟩ hX
  dsimp only at he ⊢
  refine bZ (fun hlt=>?_) fun hge=>?_
  ·rw[List.length_map] at hlt
   have hlt:k<l.length:=by omega
   rw[bD (r:=aK) hlt]
   rw[List.drop_eq_getElem_cons hlt,pO] at he
   refine aG (s:=[(false,.int .i64),(false,.int .i64)]) (YY hok _) ?_
   refine bZ (fun h=>is (by rw[←he,if_pos h])) fun h=>?_
   rw[if_neg h] at he
   refine hX _ hlt ⟨?_,he⟩
   show IntKind.i64.wrap ((k:Int)+1)=_
   rw[bB]<;>omega
  ·rw[List.length_map] at hge
   have:k=l.length:=by omega
   subst this
   rw[List.drop_length,pO] at he
   exact is he.symm
end Go.Pv
namespace Go.Pv
open Go Go.Proofs
def mW (a0:aB) (m1:List (ByteArray×Int)) (m2:List (ByteArray×Int)) (m3:List (ByteArray×Int)) (m4:List (ByteArray×Int)):List T:=[NQ a0 m1 m2 m3 m4]
noncomputable def I3:Env:=Env.of [(82,.pure dV),(100,.pure uR),(109,.pure E3),(108,.pure fW),(105,.pure j5),(110,.new B1)]
def V3:FuncId→Hint:=bV 63 [(4,.inv [.own 3 2 (.pr (.int .i64) (.int .i64)),.map 0 .str false .bool,.val 29 false (.int .i64)]),(15,.inv [.val 76 false (.int .i64),.map 0 .str false .bool]),(31,.inv [.own 3 2 (.pr (.int .i64) (.int .i64)),.val 147 false (.int .i64)])] (fun _=>aX)
theorem ABM:aQ Tryz.prog I3:=.cons BM (.cons A5W (.cons A3H (.cons W9 (.cons PF (.cons AUY (.nil _))))))
def BFZ(a0:aB):List (List T):=List.map aP.enc a0.2.2.2.2.2
def BF0(a0:aB):List (List T):=List.map aE.enc a0.2.2.2.2.1
def BF5(a0:aB):List (List T):=List.map aY.enc a0.2.2.2.1
def BG3(y3:aW):List (List T):=List.map Sy.str.enc y3.2.2.1
def BF8(a0:aB):List (List T):=List.map aV.enc a0.2.1
def BGA(a0:aB):List T:=[T.v (.string a0.1), T.sl false (BF8 a0), T.sl false (BF2 a0), T.sl false (BF5 a0), T.sl false (BF0 a0), T.sl false (BFZ a0)]
def BGR(y3:aW):List (List T):=List.map Sy.str.enc y3.2.2.2.2
def BGD(y13:ByteArray)(s12:Int×List (ByteArray×Bool)×PUnit)(X11:Int×List (ByteArray×Bool)×PUnit→Prop):Prop:=nV (Option (Nat×D)) (findD TypeDesc.string (Value.string y13) (List.map (cN Sy.str false Sy.bool) s12.2.1) 0) fun (y24:Option (Nat×D))=>dN Sy.str false Sy.bool (eZ (List.map (cN Sy.str false Sy.bool) s12.2.1) y24 (Value.string y13) (D.p BFI)) fun (y25:List (ByteArray×Bool))=>X11 (IntKind.i64.wrap (s12.1+1),y25,())
def BG8(a0:aB):List T:=[T.v (.string a0.1),T.sl false (BF8 a0), T.sl false (BF2 a0), T.sl false (BF5 a0), T.sl false (BF0 a0), T.sl false (BFZ a0)]
def BHM(a0:aB)(m1:List (ByteArray×Int))(m2:List (ByteArray×Int))(m3:List (ByteArray×Int))(m4:List (ByteArray×Int)):List T:=[T.ref (BGA a0), T.mp (bI m1),T.mp (bI m2), T.mp (bI m3),T.mp (bI m4)]
def BHT(y18:List ByteArray×Bool):List (List T):=List.map Sy.str.enc y18.1
def JE(a0:aB)(m1:List (ByteArray×Int))(m2:List (ByteArray×Int))(m3:List (ByteArray×Int))(m4:List (ByteArray×Int))(R:T→Prop):Prop:=dN Sy.str false Sy.bool [] fun (y0:List (ByteArray×Bool))=>a7 (List aO×List (ByteArray×Bool)×Int×PUnit) (fun X1 s2=>aD (decide (s2.2.2.1<(↑(BF0 a0).length:Int))) (aS aE (BF0 a0) s2.2.2.1 fun (y3:aW)=>aI BFF (dV [T.v (.string y3.1)]) fun (y4:Bool)=>aD (!y4) (R BFO) (aI BFF (fW [T.ref [T.ref (BG8 a0), T.mp (bI m1),T.mp (bI m2),T.mp (bI m3), T.mp (bI m4)], T.v (.string y3.2.1)]) fun (y5:Bool)=>aD (!y5) (R BFT) (aD (decide (y3.2.2.2.1<1)) (R BFE) (aD (decide (10000<y3.2.2.2.1)) (R BFE) (aI [(false,Sy.any)] (E3 [T.sl false (BG3 y3)]) fun (y6:T)=>aI BFF (uR [T.v (.int .i64 (↑(BG3 y3).length:Int)), y6]) fun (y7:Bool)=>aD (!y7) (R BFP) (aI [(false,Sy.any)] (E3 [T.sl false (BGR y3)]) fun (y8:T)=>aI BFF (uR [T.v (.int .i64 (↑(BGR y3).length:Int)), y8]) fun (y9:Bool)=>aD (!y9) (R BFP) (dN Sy.str false Sy.bool (List.map (cN Sy.str false Sy.bool) s2.2.1) fun (y10:List (ByteArray×Bool))=>a7 (Int×List (ByteArray×Bool)×PUnit) (fun X11 s12=>aD (decide (s12.1<(↑(BG3 y3).length:Int))) (aS Sy.str (BG3 y3) s12.1 fun (y13:ByteArray)=>gH TypeDesc.string (Value.string y13) (pT (bI m2)) false BFJ (R BFT) fun (i14:Nat) (y15:Int)=>aS aK (BF2 a0) y15 fun (y16:a8)=>aD (!decide (y16.2.2.1=4)) (aD (!decide (y16.2.2.1=3)) (R (T.v (.int .i64 10))) (aS aK (BF2 a0) y15 fun (y17:a8)=>aI [(false,Sy.str.li),(false,Sy.bool)] (j5 [T.ref (BHM a0 m1 m2 m3 m4), T.v (.string y17.2.2.2.1)]) fun (y18:List ByteArray×Bool)=>aD (decide ((↑(BHT y18).length:Int)=0)) (R BFK) (aS Sy.str (BHT y18) (IntKind.i64.wrap ((↑(BHT y18).length:Int)-1)) fun (y19:ByteArray)=>aD (!decide (y19=y3.2.1)) (R BFK) (gH TypeDesc.string (Value.string y13) (List.map (cN Sy.str false Sy.bool) s12.2.1) false Sy.bool (BGD y13 s12 X11) fun (i20:Nat) (y21:Bool)=>aD y21 (R (T.v (.int .i64 7))) (nV (Option (Nat×D)) (findD TypeDesc.string (Value.string y13) (List.map (cN Sy.str false Sy.bool) s12.2.1) 0) fun (y22:Option (Nat×D))=>dN Sy.str false Sy.bool (eZ (List.map (cN Sy.str false Sy.bool) s12.2.1) y22 (Value.string y13) (D.p BFI)) fun (y23:List (ByteArray×Bool))=>X11 (IntKind.i64.wrap (s12.1+1),y23, ())))))) (aS aK (BF2 a0) y15 fun (y26:a8)=>aI [(false,Sy.str.li),(false,Sy.bool)] (j5 [T.ref (BHM a0 m1 m2 m3 m4), T.v (.string y26.2.2.2.1)]) fun (y27:List ByteArray×Bool)=>aD (decide ((↑(BHT y27).length:Int)=0)) (R BFK) (aS Sy.str (BHT y27) (IntKind.i64.wrap ((↑(BHT y27).length:Int)-1)) fun (y28:ByteArray)=>aD (!decide (y28=y3.2.1)) (R BFK) (gH TypeDesc.string (Value.string y13) (List.map (cN Sy.str false Sy.bool) s12.2.1) false Sy.bool (BGD y13 s12 X11) fun (i29:Nat) (y30:Bool)=>aD y30 (R (T.v (.int .i64 7))) (BGD y13 s12 X11))))) (bL aA (List.map aA.enc s2.1) fun (y35:List aO)=>a7 (List aO×Int×PUnit) (fun X36 s37=>aD (decide (s37.2.1 < (↑(BGR y3).length:Int))) (aS Sy.str (BGR y3) s37.2.1 fun (y38:ByteArray)=>aD (decide (y38=y3.1)) (R BFK) (gH TypeDesc.string (Value.string y38) (pT (bI m4)) false BFJ (R BFT) fun (i39:Nat) (y40:Int)=>bN (decide (((List.map aA.enc s37.1).length+1)*16 ≤ 140737488355328) && decide ((List.map aA.enc s37.1).length+1 ≤ 140737488355328)) (bL aA (List.map aA.enc s37.1 ++ [[T.v (.int .i64 y40), T.v (.int .i64 s2.2.2.1)]]) fun (y41:List aO)=>X36 (y41,IntKind.i64.wrap (s37.2.1+1),())))) (bL aA (List.map aA.enc s37.1) fun (y42:List aO)=>dN Sy.str false Sy.bool (List.map (cN Sy.str false Sy.bool) s12.2.1) fun (y43:List (ByteArray×Bool))=>X1 (y42,y43,IntKind.i64.wrap (s2.2.2.1+1),()))) (y35,0,()))) (0,y10,())))))))) (aI [(false,BFJ.li),(false,Sy.int IntKind.i64)] (B1 [T.v (.int .i64 (↑(BF0 a0).length:Int)), T.sl false (List.map aA.enc s2.1)]) fun (y44:List Int×Int)=>aD (!decide (y44.2=0)) (R (T.v (.int .i64 20))) (R BFG))) ([],y0,0,())
theorem VV ( a0 m1 m2 m3 m4 R):dH bR Tryz.prog I3 V3 8 63 (mW a0 m1 m2 m3 m4) R=JE a0 m1 m2 m3 m4 R:=by kernel_rfl
theorem Q7 (x y:aB×MP×MP×MP×MP) (h:mW x.1 x.2.1 x.2.2.1 x.2.2.2.1 x.2.2.2.2=mW y.1 y.2.1 y.2.2.1 y.2.2.2.1 y.2.2.2.2):x=y:=pP (List.cons.inj h).1
abbrev iU (k:aW):List ByteArray:=k.2.2.1
abbrev fL (k:aW):List ByteArray:=k.2.2.2.2
abbrev TF (k:aW):Int:=k.2.2.2.1
def wG (d:aB) (k:aW):Int:=if pF k.1=false then 6 else if wH d k.2.1=false then 8 else if TF k<1∨10000<TF k then 9 else if sR (iU k)=false∨sR (fL k)=false then 11 else 0
def instE (d:aB) (b:ByteArray):List ByteArray→List ByteArray→Int×List ByteArray
 | [],S=>(0,S)
 | id::l,S=>match partOf d id with
  | none=>(8,S)
  | some p=>if ¬ fG p=4∧¬ fG p=3 then (10,S) else if (up d (j2 p)).1.getLast? = some b then (if TH S id=true then (7,S) else instE d b l (id::S)) else (2,S)
def EI (d:aB) (k:ByteArray) (i:Int):List ByteArray→List aO→Int×List aO
 | [],E=>(0,E)
 | id::l,E=>if id=k then (2,E) else match e6 (gX (ids d.2.2.2.2.1)) id with
  | none=>(8,E)
  | some j=>EI d k i l (E++[(j,i)])
def fY (d:aB):List aW→Int→List aO→List ByteArray→Int×List aO
 | [],_,E,_=>(0,E)
 | k::l,i,E,S=>if ¬ wG d k=0 then (wG d k,E) else if ¬ (instE d k.2.1 (iU k) S).1=0 then ((instE d k.2.1 (iU k) S).1,E) else if ¬ (EI d k.1 i (fL k) E).1=0 then ((EI d k.1 i (fL k) E).1,E) else
  fY d l (i+1) (EI d k.1 i (fL k) E).2 (instE d k.2.1 (iU k) S).2
def fN (d:aB):Int:=if (fY d d.2.2.2.2.1 0 [] []).1=0 then (if (kS d.2.2.2.2.1.length (fY d d.2.2.2.2.1 0 [] []).2).2=0 then 0 else 20) else (fY d d.2.2.2.2.1 0 [] []).1
def xN (d:aB):Bool:=d.2.2.2.2.1.all (fun k=>decide ((iU k).length≤140737488355328)&&decide ((fL k).length≤140737488355328))&&decide (d.2.2.2.2.1.length≤64)
theorem nL (a b:ByteArray):cM a b=true↔a.data.toList<b.data.toList:=by
 unfold cM;rw[bytesLess_eq,decide_eq_true_iff]
theorem AHL {a b:ByteArray} (h:(!(cM b a||decide (b=a)))=true):a.data.toList<b.data.toList:=by
 simp only[Bool.not_eq_true',Bool.or_eq_false_iff,decide_eq_false_iff_not] at h
 refine Classical.byContradiction fun hc=>h.2 ?_
 have h1:¬ b.data.toList<a.data.toList:=fun h'=>by rw[(nL b a).2 h'] at h;exact absurd h.1 (by decide)
 have e:b.data.toList=a.data.toList:=List.le_antisymm (List.not_lt.1 hc) (List.not_lt.1 h1)
 exact ByteArray.ext (Array.ext' e)
theorem WJ:∀ {l:List ByteArray},sR l=true→l.Pairwise fun a b=>a.data.toList<b.data.toList
 | [],_=>List.Pairwise.nil
 | [a],_=>by simp
 | a::b::l,h=>by
  rw[sR,Bool.and_eq_true] at h
  have h1:=AHL h.1
  have ih:=WJ h.2
  refine List.pairwise_cons.2 ⟨fun x hx=>?_,ih⟩
  rcases List.mem_cons.1 hx with rfl|hx
  ·exact h1
  ·exact List.lt_trans h1 ((List.pairwise_cons.1 ih).1 x hx)
theorem ALJ {l:List ByteArray} (h:sR l=true):l.Nodup:=by
 refine (WJ h).imp fun {a b} hab e=>?_
 subst e
 exact List.lt_irrefl _ hab
theorem AID:∀ {l m:List ByteArray},l.Nodup→(∀ x∈l,x∈m)→l.length≤m.length
 | [],_,_,_=>Nat.zero_le _
 | a::l,m,h,hm=>by
  obtain ⟨h1,h2⟩:=List.pairwise_cons.1 h
  have h3:l.length≤(m.filter fun x=>decide (x≠a)).length:=AID h2 fun x hx=>List.mem_filter.2 ⟨hm x (List.mem_cons_of_mem _ hx),decide_eq_true fun e=>h1 x hx e.symm⟩
  have h4:(m.filter fun x=>decide (x≠a)).length<m.length:=List.length_filter_lt_length_iff_exists.2 ⟨a,hm a List.mem_cons_self,by simp⟩
  rw[List.length_cons];omega
def sJ (x:aB×MP×MP×MP×MP):Option T:=match xN x.1 with
 | true=>uM x (T.v (Value.int .i64 (fN x.1)))
 | false=>none
noncomputable def rX:List T→Option (T):=gA (fun (x:aB×(List (ByteArray×Int))×(List (ByteArray×Int))×(List (ByteArray×Int))×List (ByteArray×Int))=>mW x.1 x.2.1 x.2.2.1 x.2.2.2.1 x.2.2.2.2) sJ
theorem XV (a0:aB) (m1:List (ByteArray×Int)) (m2:List (ByteArray×Int)) (m3:List (ByteArray×Int)) (m4:List (ByteArray×Int)):rX (mW a0 m1 m2 m3 m4)=sJ (a0,m1,m2,m3,m4):=dS (A:=(fun (x:aB×(List (ByteArray×Int))×(List (ByteArray×Int))×(List (ByteArray×Int))×List (ByteArray×Int))=>mW x.1 x.2.1 x.2.2.1 x.2.2.2.1 x.2.2.2.2)) Q7 (a0,m1,m2,m3,m4)
theorem AN4 (h:∀ (a0:aB) (m1:List (ByteArray×Int)) (m2:List (ByteArray×Int)) (m3:List (ByteArray×Int)) (m4:List (ByteArray×Int)) (r:T),sJ (a0,m1,m2,m3,m4)=some r→(∀ t∈mW a0 m1 m2 m3 m4,Bd t)→JE a0 m1 m2 m3 m4 (fun y=>y=r)):aN Tryz.prog 63 rX :=
 b7 (E:=I3) (Hs:=V3) ABM aR aU (aL rfl) 8 ⟨_,_,Tryz.func63,rfl⟩ fun x r h1 h2=>by
  rw[VV]
  exact h x.1 x.2.1 x.2.2.1 x.2.2.2.1 x.2.2.2.2 r h1 h2
theorem BDJ {α:Type} {id:ByteArray} {l:List (ByteArray×α)} {A:Prop} {B:Nat→Int→Prop} (hA:e6 (gX (ids l)) id=none→l.find? (fun s=>decide (s.1=id))=none→A) (hB:∀ i k (h:k<l.length),e6 (gX (ids l)) id=some (k:Int)→l.find? (fun s=>decide (s.1=id))=some l[k]→B i (k:Int)) :
  gH TypeDesc.string (Value.string id) (pT (bI (gX (ids l)))) false (Sy.int IntKind.i64) A B:=by
 rw[ZU]
 refine BK (r:=.int .i64) (fun h=>?_) fun i v h=>?_
 ·rcases B7 id l with ⟨h1,h2⟩|⟨k,hk,h1,_⟩
  ·exact hA h1 h2
  ·rw[h] at h1;cases h1
 ·rcases B7 id l with ⟨h1,_⟩|⟨k,hk,h1,h2⟩
  ·rw[h] at h1;cases h1
  ·rw[h] at h1;cases h1;exact hB i k hk h h2
theorem BDK {l:List ByteArray} {b:ByteArray} {A:Prop} (hl:l.length≤140737488355328) (hyes:l.getLast? = some b→A) (hno:¬ l.getLast? = some b→A) {R2:Prop} (hR2:¬ l.getLast? = some b→R2) {K:Prop} (hK:l.getLast? = some b→K) :
  aD (decide (((List.map Sy.str.enc l).length:Int)=0)) R2 (aS Sy.str (List.map Sy.str.enc l) (IntKind.i64.wrap (((List.map Sy.str.enc l).length:Int)-1)) fun (y:ByteArray)=>aD (!decide (y=b)) R2 K):=by
 rw[List.length_map]
 refine bZ (fun h=>hR2 ?_) fun h=>?_
 ·have:l=[]:=List.length_eq_zero_iff.1 (by omega)
  rw[this];simp
 ·have h1:l.length-1<l.length:=by omega
  rw[bB _ (by omega) (by omega),show ((l.length:Int)-1)=((l.length-1:Nat):Int) by omega,bD (r:=.str) h1]
  have e:l.getLast? = some l[l.length-1]:=by rw[List.getLast?_eq_getElem?,List.getElem?_eq_getElem h1]
  refine lI (fun h=>hR2 ?_) fun h=>hK ?_
  ·rw[e];intro h';exact h (Option.some.inj h')
  ·rw[e];exact congrArg some h
theorem BD5 {es:List (ByteArray×Bool)} {S:List ByteArray} {id:ByteArray} {R7:Prop} {K:List (ByteArray×Bool)→Prop} (hS:Seen es (fun x=>x∈S)) (h7:id∈S→R7) (hK:∀ es',id∉S→Seen es' (fun x=>x∈id::S)→K es') :
  gH TypeDesc.string (Value.string id) (List.map (cN Sy.str false Sy.bool) es) false Sy.bool
   (nV (Option (Nat×D)) (findD TypeDesc.string (Value.string id) (List.map (cN Sy.str false Sy.bool) es) 0) fun (y24:Option (Nat×D)) =>
    dN Sy.str false Sy.bool (eZ (List.map (cN Sy.str false Sy.bool) es) y24 (Value.string id) (D.p (T.v (.bool true)))) fun (y25:List (ByteArray×Bool))=>K y25)
   fun (i20:Nat) (y21:Bool)=>aD y21 R7
    (nV (Option (Nat×D)) (findD TypeDesc.string (Value.string id) (List.map (cN Sy.str false Sy.bool) es) 0) fun (y22:Option (Nat×D)) =>
     dN Sy.str false Sy.bool (eZ (List.map (cN Sy.str false Sy.bool) es) y22 (Value.string id) (D.p (T.v (.bool true)))) fun (y23:List (ByteArray×Bool))=>K y23):=by
 refine BK (r:=.bool) (fun hno=>?_) fun j b hb=>?_
 ·refine AWX (r:=.bool) rfl (es:=es) (k:=id) (v:=true) (hK _ (fun h=>?_) ((hS.ins id).congr fun x=>?_))
  ·have:=(hS.2 id).2 h
   rw[hno] at this;cases this
  ·rw[List.mem_cons];exact ⟨fun h=>h.symm.imp_left Eq.symm,fun h=>h.symm.imp_right Eq.symm⟩
 ·have:=hS.1 _ _ hb
  subst this
  rw[jY]
  exact h7 ((hS.2 _).1 hb)
theorem AMJ:aN Tryz.prog 63 rX:=AN4 fun d m1 m2 m3 m4 r h hb=>by
 unfold sJ at h
 split at h
 case h_2=>cases h
 rename_i hok
 replace hok:xN d=true:=hok
 obtain ⟨hx,hs,rfl⟩:=nH h
 simp only[Prod.mk.injEq,true_and] at hx
 obtain ⟨rfl,rfl,rfl,rfl⟩:=hx
 replace hs:mE d:=hs
 clear h hb
 simp only[xN,Bool.and_eq_true,decide_eq_true_eq,List.all_eq_true] at hok
 obtain ⟨hkp,hka⟩:=hok
 have hkq:=fun k hk=>(hkp k hk).2
 replace hkp:=fun k hk=>(hkp k hk).1
 have hlk:=hs.k
 have is:∀ {n:Int},fN d=n→T.v (.int .i64 n)=T.v (.int .i64 (fN d)):=fun h=>by rw[h]
 unfold JE BHT BHM BG8 BGD BGR BGA BF8 BG3 BF5 BF2 BF0 BFZ BFT BFP BFO BFK BFJ BFI BFG BFF BFE
 refine nA (r:=.bool) rfl [] _ ?_
 refine bK d.2.2.2.2.1.length (fun k s=>∃ S,s.2.2.1=(k:Int)∧Seen s.2.1 (fun x=>x∈S)∧s.1.length≤64*k∧fY d (d.2.2.2.2.1.drop k) k s.1 S=fY d d.2.2.2.2.1 0 [] []) ⟨[],rfl,Seen.nil.congr (by simp),by simp,rfl⟩ ?_
 rintro X k ⟨E,es,i,u⟩ hk ⟨S,rfl,hseen,hlen,hr⟩ hX
 dsimp only at hseen hlen hr ⊢
 refine bZ (fun hlt=>?_) fun hge=>?_
 ·rw[List.length_map] at hlt
  have hlt:k<d.2.2.2.2.1.length:=by omega
  rw[bD (r:=aE) hlt]
  rw[List.drop_eq_getElem_cons hlt] at hr
  have hmem:=List.getElem_mem hlt
  have hp1:=hkp _ hmem
  have hp2:=hkq _ hmem
  generalize hy:d.2.2.2.2.1[k]=y at hr hp1 hp2 ⊢
  rw[fY] at hr
  have bad:∀ {n:Int},n≠0→(fY d d.2.2.2.2.1 0 [] []).1=n→T.v (.int .i64 n)=T.v (.int .i64 (fN d)):=fun hn h=>by
   refine is ?_
   unfold fN
   rw[if_neg (by rw[h];exact hn),h]
  have badH:∀ {n:Int},n≠0→wG d y=n→T.v (.int .i64 n)=T.v (.int .i64 (fN d)):=fun hn h=>by
   refine bad hn ?_
   rw[if_pos (by rw[h];exact hn)] at hr
   rw[←hr];exact h
  rw[mL]
  refine kQ (fun h=>badH (by decide) (by unfold wG;rw[if_pos h])) fun i1=>?_
  refine aG (s:=[(false,.bool)]) (LO hs _) ?_
  refine kQ (fun h=>badH (by decide) (by unfold wG;rw[if_neg (by rw[i1];decide),if_pos h])) fun i2=>?_
  have n1:¬ pF y.1=false:=by rw[i1];decide
  have n2:¬ wH d y.2.1=false:=by rw[i2];decide
  refine bZ (fun h=>badH (by decide) (by unfold wG;rw[if_neg n1,if_neg n2,if_pos (.inl h)])) fun h3=>?_
  refine bZ (fun h=>badH (by decide) (by unfold wG;rw[if_neg n1,if_neg n2,if_pos (.inr h)])) fun h4=>?_
  have n3:¬ (TF y<1∨10000<TF y):=by rintro (h|h);exact h3 h;exact h4 h
  refine aG (s:=[(false,.any)]) (PX (a0:=iU y)) ?_
  refine IC (b:=sR (iU y)) (by rw[List.length_map];exact AWJ hp1) _ ?_
  refine kQ (fun h=>badH (by decide) (by unfold wG;rw[if_neg n1,if_neg n2,if_neg n3,if_pos (.inl h)])) fun h5=>?_
  refine aG (s:=[(false,.any)]) (PX (a0:=fL y)) ?_
  refine IC (b:=sR (fL y)) (by rw[List.length_map];exact AWJ (l:=fL y) hp2) _ ?_
  refine kQ (fun h=>badH (by decide) (by unfold wG;rw[if_neg n1,if_neg n2,if_neg n3,if_pos (.inr h)])) fun h6=>?_
  have hh:wG d y=0:=by unfold wG;rw[if_neg n1,if_neg n2,if_neg n3,if_neg];rintro (h|h);(rw[h5] at h;cases h);(rw[h6] at h;cases h)
  have hnd:=ALJ h6
  clear badH n1 n2 n3 h3 h4 h5 h6 i1 i2
  rw[if_neg (fun h=>h hh)] at hr
  refine nA (r:=.bool) rfl es _ ?_
  refine bK (iU y).length (fun j s=>∃ S',s.1=(j:Int)∧Seen s.2.1 (fun x=>x∈S')∧instE d y.2.1 ((iU y).drop j) S'=instE d y.2.1 (iU y) S) ⟨S,rfl,hseen,rfl⟩ ?_
  rintro Y j ⟨i,es',u⟩ hj ⟨S',rfl,hseen',hi⟩ hY
  dsimp only at hseen' hi ⊢
  refine bZ (fun hjl=>?_) fun hjl=>?_
  ·rw[List.length_map] at hjl
   replace hjl:(j:Int)<((iU y).length:Int):=hjl
   have hjl:j<(iU y).length:=by omega
   rw[bD (r:=.str) hjl]
   rw[List.drop_eq_getElem_cons hjl,instE] at hi
   have badI:∀ {n:Int},n≠0→(instE d y.2.1 (iU y) S).1=n→T.v (.int .i64 n)=T.v (.int .i64 (fN d)):=fun hn h=>by
    refine bad hn ?_
    rw[if_pos (by rw[h];exact hn)] at hr
    rw[←hr];exact h
   have hw:IntKind.i64.wrap ((j:Int)+1)=((j+1:Nat):Int):=bB _ (by omega) (by omega)
   generalize (iU y)[j]=id at hi ⊢
   refine BDJ (fun _ hn=>badI (by decide) ?_) fun i q hq _ hn=>?_
   ·have hn:partOf d id=none:=hn
    rw[hn] at hi;rw[←hi]
   ·have hn:partOf d id=some d.2.2.1[q]:=hn
    rw[hn] at hi
    rw[bD (r:=aK) hq]
    obtain ⟨p,hp⟩:∃ p,p=d.2.2.1[q]:=⟨_,rfl⟩
    rw[←hp] at hi hn ⊢
    dsimp only at hi
    have fin:¬ (¬ fG p=4∧¬ fG p=3)→aI [(false,Sy.str.li),(false,Sy.bool)]
      (j5 (lK d (gX (ids d.2.1)) (gX (ids d.2.2.1)) (gX (ids d.2.2.2.1)) (gX (ids d.2.2.2.2.1)) (j2 p))) fun (y18:List ByteArray×Bool) =>
      aD (decide (((List.map Sy.str.enc y18.1).length:Int)=0)) (T.v (.int .i64 2)=T.v (.int .i64 (fN d)))
       (aS Sy.str (List.map Sy.str.enc y18.1) (IntKind.i64.wrap (((List.map Sy.str.enc y18.1).length:Int)-1)) fun (y19:ByteArray) =>
        aD (!decide (y19=y.2.1)) (T.v (.int .i64 2)=T.v (.int .i64 (fN d)))
        (gH TypeDesc.string (Value.string id) (List.map (cN Sy.str false Sy.bool) es') false Sy.bool
         (nV (Option (Nat×D)) (findD TypeDesc.string (Value.string id) (List.map (cN Sy.str false Sy.bool) es') 0) fun (y24:Option (Nat×D)) =>
          dN Sy.str false Sy.bool (eZ (List.map (cN Sy.str false Sy.bool) es') y24 (Value.string id) (D.p (T.v (.bool true)))) fun (y25:List (ByteArray×Bool))=>Y (IntKind.i64.wrap ((j:Int)+1),y25,()))
         fun (i20:Nat) (y21:Bool)=>aD y21 (T.v (.int .i64 7)=T.v (.int .i64 (fN d)))
          (nV (Option (Nat×D)) (findD TypeDesc.string (Value.string id) (List.map (cN Sy.str false Sy.bool) es') 0) fun (y22:Option (Nat×D)) =>
           dN Sy.str false Sy.bool (eZ (List.map (cN Sy.str false Sy.bool) es') y22 (Value.string id) (D.p (T.v (.bool true)))) fun (y23:List (ByteArray×Bool))=>Y (IntKind.i64.wrap ((j:Int)+1),y23,())))):=by
     intro hk
     rw[if_neg hk] at hi
     refine aG (s:=[(false,.li .str),(false,.bool)]) (G7 hs _) ?_
     have hul:=BBF d (j2 p)
     refine BDK (A:=True) (b:=y.2.1) (by omega) (fun _=>trivial) (fun _=>trivial) (fun h=>badI (by decide) ?_) fun h=>?_
     ·rw[if_neg h] at hi;rw[←hi]
     ·rw[if_pos h] at hi
      refine BD5 (K:=fun es=>Y (IntKind.i64.wrap ((j:Int)+1),es,())) hseen' (fun h7=>badI (by decide) ?_) fun es2 h7 hs2=>?_
      ·rw[if_pos (C2.2 h7)] at hi;rw[←hi]
      ·rw[if_neg (fun h=>h7 (C2.1 h))] at hi
       rw[hw]
       exact hY _ hjl ⟨id::S',rfl,hs2,hi⟩
    refine lI (fun k4=>?_) fun k4=>?_
    ·refine lI (fun k3=>badI (by decide) ?_) fun k3=>?_
     ·rw[if_pos ⟨k4,k3⟩] at hi;rw[←hi]
     ·rw[bD (r:=aK) hq,←hp]
      exact fin fun h=>h.2 k3
    ·rw[bD (r:=aK) hq,←hp]
     exact fin fun h=>h.1 k4
  ·rw[List.length_map] at hjl
   replace hjl:¬ (j:Int)<((iU y).length:Int):=hjl
   have hjl:j=(iU y).length:=by omega
   subst hjl
   rw[List.drop_length,instE] at hi
   rw[←hi,if_neg (by simp)] at hr
   dsimp only at hr
   clear hY hi hj
   rw[dZ rfl]
   refine bK (fL y).length (fun j s=>s.2.1=(j:Int)∧s.1.length=E.length+j∧(∀ x∈(fL y).take j,x∈ids d.2.2.2.2.1)∧EI d y.1 k ((fL y).drop j) s.1=EI d y.1 k (fL y) E) ⟨rfl,by simp,by simp,rfl⟩ ?_
   rintro Y j ⟨E',i,u⟩ hj ⟨rfl,hEl,hin,hi⟩ hY
   dsimp only at hEl hin hi ⊢
   have hjk:j≤64:=by
    have h1:=AID (hnd.sublist (List.take_sublist j _)) hin
    have h2:(ids d.2.2.2.2.1).length=d.2.2.2.2.1.length:=by simp[ids]
    rw[List.length_take] at h1
    omega
   refine bZ (fun hjl=>?_) fun hjl=>?_
   ·rw[List.length_map] at hjl
    replace hjl:(j:Int)<((fL y).length:Int):=hjl
    have hjl:j<(fL y).length:=by omega
    rw[bD (r:=.str) hjl]
    rw[List.drop_eq_getElem_cons hjl,EI] at hi
    have badA:∀ {n:Int},n≠0→(EI d y.1 k (fL y) E).1=n→T.v (.int .i64 n)=T.v (.int .i64 (fN d)):=fun hn h=>by
     refine bad hn ?_
     rw[if_pos (by rw[h];exact hn)] at hr
     rw[←hr];exact h
    have hw:IntKind.i64.wrap ((j:Int)+1)=((j+1:Nat):Int):=bB _ (by omega) (by omega)
    have hts:(fL y).take (j+1)=(fL y).take j++[(fL y)[j]]:=List.take_succ_eq_append_getElem hjl
    generalize (fL y)[j]=id at hi hts ⊢
    refine bZ (fun h=>badA (by decide) ?_) fun h=>?_
    ·rw[if_pos h] at hi;rw[←hi]
    rw[if_neg h] at hi
    refine BDJ (fun hg _=>badA (by decide) ?_) fun i q hq hg hfi=>?_
    ·rw[hg] at hi;rw[←hi]
    ·rw[hg] at hi
     dsimp only at hi
     refine ⟨by simp;omega,?_⟩
     rw[w6 (r:=aA) rfl E' [T.v (.int .i64 (q:Int)),T.v (.int .i64 (k:Int))] ((q:Int),(k:Int)) rfl,hw]
     refine hY _ hjl ⟨rfl,by simp only[List.length_append,List.length_cons,List.length_nil];omega,fun x hx=>?_,hi⟩
     rw[hts] at hx
     rcases List.mem_append.1 hx with hx|hx
     ·exact hin x hx
     ·have hx:x=id:=by simpa using hx
      subst hx
      have h9:=List.find?_some hfi
      exact List.mem_map.2 ⟨_,List.getElem_mem hq,of_decide_eq_true h9⟩
   ·rw[List.length_map] at hjl
    replace hjl:¬ (j:Int)<((fL y).length:Int):=hjl
    have hjl:j=(fL y).length:=by omega
    subst hjl
    rw[List.drop_length,EI] at hi
    rw[←hi,if_neg (by simp)] at hr
    dsimp only at hr
    rw[dZ rfl]
    refine nA (r:=.bool) rfl es' _ ?_
    refine hX _ hlt ⟨S',?_,hseen',?_,?_⟩
    ·show IntKind.i64.wrap ((k:Int)+1)=_
     rw[bB]<;>omega
    ·show E'.length≤_
     omega
    ·rw[←hr];rfl
 ·rw[List.length_map] at hge
  have hkl:k=d.2.2.2.2.1.length:=by omega
  subst hkl
  rw[List.drop_length,fY] at hr
  have w:fN d=if (kS d.2.2.2.2.1.length E).2=0 then 0 else 20:=by
   unfold fN;rw[←hr,if_pos rfl]
  refine aG (s:=[(false,.li (.int .i64)),(false,.int .i64)]) (y:=kS d.2.2.2.2.1.length E) (by rw[List.length_map];exact (AEM ..).trans (jF (l:=E) _ (by omega))) ?_
  exact lI (fun h=>is (by rw[w,if_neg h])) fun h=>is (by rw[w,if_pos h])
end Go.Pv
namespace Go.Pv
open Go Go.Proofs
theorem H8 {a:Option MP} {es:MP} {K:MP→Prop} (h:a=some es) (hk:K es):nV (List (ByteArray×Int)) a K:=⟨es,h,hk⟩
end Go.Pv
namespace Go.Pv
open Go Go.Proofs
noncomputable def PN:List T→Option (List (ByteArray×Int)):=AM7
theorem A8K:jS Tryz.prog 95 (q8 PN):=BDE
noncomputable def A6O:Env:=Env.of [(56,.pure vV),(57,.pure gN),(95,.AL9 PN),(59,.pure LN),(60,.pure vO),(61,.pure rY),(62,.pure vP),(63,.pure rX),(64,.pure vN)]
def A62:FuncId→Hint:=fun _=>aX
theorem AQM:aQ Tryz.prog A6O:=.cons AMM (.cons xC (.cons A8K (.cons A3E (.cons AMB (.cons AMK (.cons AMC (.cons AMJ (.cons AMA (.nil _)))))))))
def BGG(a0:aB):List T:=[T.ref [T.ref [T.sl false (BFZ a0), T.sl false (BF0 a0), T.sl false (BF5 a0), T.sl false (BF2 a0), T.sl false (BF8 a0), T.v (.string a0.1)].reverse].reverse]
def ACC(a0:aB)(a1:aH)(R:T→Prop):Prop:=aI BFD (vV [aF true aJ a1]) fun (y0:Int)=>aD (!decide (y0=0)) (R (BGT y0)) (aI BFF (gN [T.v (.string a0.1)]) fun (y1:Bool)=>aD (!y1) (R BFO) (nV (List (ByteArray×Int)) (PN [T.fn 96 [].reverse (BGG a0).reverse, T.v (.int .i64 (↑(BF8 a0).length:Int))].reverse) fun (y2:List (ByteArray×Int))=>nV (List (ByteArray×Int)) (PN [T.fn 97 [].reverse (BGG a0).reverse, T.v (.int .i64 (↑(BF2 a0).length:Int))].reverse) fun (y3:List (ByteArray×Int))=>nV (List (ByteArray×Int)) (PN [T.fn 98 [].reverse (BGG a0).reverse, T.v (.int .i64 (↑(BF5 a0).length:Int))].reverse) fun (y4:List (ByteArray×Int))=>nV (List (ByteArray×Int)) (PN [T.fn 99 [].reverse (BGG a0).reverse, T.v (.int .i64 (↑(BF0 a0).length:Int))].reverse) fun (y5:List (ByteArray×Int))=>aI BFD (LN [T.ref [T.ref (BG8 a0), T.mp (bI y2),T.mp (bI y3),T.mp (bI y4), T.mp (bI y5)]]) fun (y6:Int)=>aD (!decide (y6=0)) (R (BGT y6)) (aI BFD (vO [T.ref [T.ref (BGA a0), T.mp (bI y2),T.mp (bI y3),T.mp (bI y4), T.mp (bI y5)]]) fun (y7:Int)=>aD (!decide (y7=0)) (R (BGT y7)) (aI BFD (rY [T.ref [T.ref (BGA a0), T.mp (bI y2),T.mp (bI y3),T.mp (bI y4), T.mp (bI y5)], aF true aJ a1]) fun (y8:Int)=>aD (!decide (y8=0)) (R (BGT y8)) (aI BFD (vP [T.ref (BHM a0 y2 y3 y4 y5)]) fun (y9:Int)=>aD (!decide (y9=0)) (R (BGT y9)) (aI BFD (rX [T.ref (BHM a0 y2 y3 y4 y5)]) fun (y10:Int)=>aD (!decide (y10=0)) (R (BGT y10)) (aI BFD (vN [T.ref (BHM a0 y2 y3 y4 y5)]) fun (y11:Int)=>R (BGT y11))))))))
abbrev AF2:Sh:=[(true,aC),(true,aJ)]
def gK (d:aB) (m:aH):Int:=if ¬ yQ m=0 then yQ m else if isName d.1=false then 6 else if ¬ lA d=0 then lA d else if ¬ gP d=0 then gP d else if ¬ iV d m=0 then iV d m else if ¬ bP (n9 d) d.2.2.2.1=0 then bP (n9 d) d.2.2.2.1 else if ¬ fN d=0 then fN d else bP (sF d) d.2.2.2.2.2
def IE (x:aB×aH):Option T:=some (T.v (Value.int .i64 (gK x.1 x.2)))
noncomputable def cC:List T→Option T:=gS AF2 IE
theorem mI {a0 a1}:cC [aF true aC a0,aF true aJ a1]=IE (a0,a1):=bC (s:=AF2) rfl (a0,a1) rfl
theorem A4A:yL Tryz.prog 26 cC IE (b9 AF2) ACC:=jZ (a1:=(true,aC)) (a2:=(true,aJ)) (sp:=IE) (F:=ACC) (Hs:=A62) (f:=26) (k:=8) AQM aR aU (aL rfl) ⟨_,_,Tryz.func26,rfl⟩ rfl fun _ _ _=>by kernel_rfl
theorem A3V {m:aH} (h:yQ m=0):okM m=true:=by
 unfold yQ at h
 split at h
 ·cases h
 rename_i h1
 split at h
 ·rename_i h2;exact absurd h h2
 rename_i h2
 have h2:bP (wE m) (List.range m.1.length)=0:=Classical.byContradiction h2
 simp only[okM,Bool.and_eq_true,decide_eq_true_eq,List.all_eq_true]
 refine ⟨⟨by omega,by omega⟩,fun g hg=>?_⟩
 obtain ⟨i,hi,rfl⟩:=List.mem_iff_getElem.1 hg
 have h3:=kZ h2 i (List.mem_range.2 hi)
 unfold wE at h3
 rw[tI hi] at h3
 have h4:iT m.1[i]=0:=by
  refine Classical.byContradiction fun hc=>?_
  rw[if_pos hc] at h3
  exact hc h3
 unfold iT at h4
 split at h4
 ·cases h4
 split at h4
 ·cases h4
 split at h4
 ·cases h4
 split at h4
 ·cases h4
 ·omega
theorem A2L {d:aB} {m:aH} (hs:mE d) (hm:okM m=true):rY (mX d (gX (ids d.2.1)) (gX (ids d.2.2.1)) (gX (ids d.2.2.2.1)) (gX (ids d.2.2.2.2.1)) m)=some (T.v (Value.int .i64 (iV d m))):=by
 rw[XW];unfold sK;dsimp only;rw[hm];exact nJ hs _
theorem A2K {d:aB} (hs:mE d) (hk:xN d=true):rX (mW d (gX (ids d.2.1)) (gX (ids d.2.2.1)) (gX (ids d.2.2.2.1)) (gX (ids d.2.2.2.2.1)))=some (T.v (Value.int .i64 (fN d))):=by
 rw[XV];unfold sJ;dsimp only;rw[hk];exact nJ hs _
theorem iX:aN Tryz.prog 26 cC:=A4A fun d m r h hb=>by
 cases h
 have hd:BdS aC d:=hb.1
 have hs:mE d:=⟨hd.2.1.1,hd.2.2.1.1,hd.2.2.2.1.1,hd.2.2.2.2.1.1,hd.2.2.2.2.2.1⟩
 have hkl:∀ k∈d.2.2.2.2.1,(iU k).length≤140737488355328∧(fL k).length≤140737488355328:=fun k hk=>by
  have h:=hd.2.2.2.2.1.2 k hk
  exact ⟨h.2.2.1.1,h.2.2.2.2.1⟩
 clear hd
 have is:∀ {n:Int},gK d m=n→T.v (.int .i64 n)=T.v (.int .i64 (gK d m)):=fun h=>by rw[h]
 unfold ACC BHM BG8 BGG BGA BF8 BF5 BF2 BF0 BFZ BGT BFO BFF BFD
 refine aG (s:=[(false,.int .i64)]) (y:=yQ m) (YJ ..) ?_
 refine lI (fun h=>is (by unfold gK;rw[if_pos h])) fun h0=>?_
 have hm:=A3V h0
 refine aG (s:=[(false,.bool)]) (y:=isName d.1) vT ?_
 have n0:¬ ¬ yQ m=0:=fun h=>h h0
 refine kQ (fun h=>is (by unfold gK;rw[if_neg n0,if_pos h])) fun hn=>?_
 have n1:¬ isName d.1=false:=by rw[hn];decide
 refine H8 (es:=gX (ids d.2.1)) (by rw[List.length_map];exact A81 hs.n) ?_
 refine H8 (es:=gX (ids d.2.2.1)) (by rw[List.length_map];exact A82 hs.p) ?_
 refine H8 (es:=gX (ids d.2.2.2.1)) (by rw[List.length_map];exact A83 hs.s) ?_
 refine H8 (es:=gX (ids d.2.2.2.2.1)) (by rw[List.length_map];exact A84 hs.k) ?_
 refine aG (s:=[(false,.int .i64)]) (y:=lA d) ((AM6 ..).trans (nJ hs _)) ?_
 refine lI (fun h=>is (by unfold gK;rw[if_neg n0,if_neg n1,if_pos h])) fun h1=>?_
 have n2:¬ ¬ lA d=0:=fun h=>h h1
 have hk:xN d=true:=by
  simp only[xN,Bool.and_eq_true,decide_eq_true_eq,List.all_eq_true]
  refine ⟨hkl,?_⟩
  have hlong:kL d=false:=by
   rw[Bool.eq_false_iff]
   intro h
   unfold lA at h1
   rw[if_pos h] at h1
   cases h1
  simp only[kL,Bool.or_eq_false_iff,decide_eq_false_iff_not] at hlong
  omega
 refine aG (s:=[(false,.int .i64)]) (y:=gP d) ((XN ..).trans (nJ hs _)) ?_
 refine lI (fun h=>is (by unfold gK;rw[if_neg n0,if_neg n1,if_neg n2,if_pos h])) fun h2=>?_
 have n3:¬ ¬ gP d=0:=fun h=>h h2
 refine aG (s:=[(false,.int .i64)]) (y:=iV d m) (A2L hs hm) ?_
 refine lI (fun h=>is (by unfold gK;rw[if_neg n0,if_neg n1,if_neg n2,if_neg n3,if_pos h])) fun h3=>?_
 have n4:¬ ¬ iV d m=0:=fun h=>h h3
 refine aG (s:=[(false,.int .i64)]) (y:=bP (n9 d) d.2.2.2.1) ((XO ..).trans (nJ hs _)) ?_
 refine lI (fun h=>is (by unfold gK;rw[if_neg n0,if_neg n1,if_neg n2,if_neg n3,if_neg n4,if_pos h])) fun h4=>?_
 have n5:¬ ¬ bP (n9 d) d.2.2.2.1=0:=fun h=>h h4
 refine aG (s:=[(false,.int .i64)]) (y:=fN d) (A2K hs hk) ?_
 refine lI (fun h=>is (by unfold gK;rw[if_neg n0,if_neg n1,if_neg n2,if_neg n3,if_neg n4,if_neg n5,if_pos h])) fun h5=>?_
 have n6:¬ ¬ fN d=0:=fun h=>h h5
 refine aG (s:=[(false,.int .i64)]) (y:=bP (sF d) d.2.2.2.2.2) ((XM ..).trans (nJ hs _)) ?_
 exact is (by unfold gK;rw[if_neg n0,if_neg n1,if_neg n2,if_neg n3,if_neg n4,if_neg n5,if_neg n6])
noncomputable def SS:List T→Option T:=gD cC
theorem AUP:aN Tryz.prog 26 SS:=iX.deep
end Go.Pv
namespace Go.Pv
open Go Go.Proofs
def nT {α:Type} (after:α→α→Bool) (l:List α) (x:α):List α:=l.take (l.findIdx fun y=>after y x)++x::l.drop (l.findIdx fun y=>after y x)
def lH {α:Type} (is:α→Bool) (l:List α):List α:=l.take (l.findIdx is)++l.drop (l.findIdx is+1)
theorem ZH {α:Type} {after:α→α→Bool} {l:List α} {x y:α}:y∈nT after l x↔y=x∨y∈l:=by
 unfold nT
 rw[List.mem_append,List.mem_cons]
 constructor
 ·rintro (h|h|h)
  ·exact .inr (List.mem_of_mem_take h)
  ·exact .inl h
  ·exact .inr (List.mem_of_mem_drop h)
 ·rintro (h|h)
  ·exact .inr (.inl h)
  ·rw[←List.take_append_drop (l.findIdx fun y=>after y x) l,List.mem_append] at h
   rcases h with h|h
   ·exact .inl h
   ·exact .inr (.inr h)
theorem KM {α:Type} {is:α→Bool} {l:List α} {y:α} (h:y∈lH is l):y∈l:=by
 unfold lH at h
 rcases List.mem_append.1 h with h|h
 ·exact List.mem_of_mem_take h
 ·exact List.mem_of_mem_drop h
theorem AWS {α:Type} {after:α→α→Bool} {l:List α} {x:α}:(nT after l x).length=l.length+1:=by
 unfold nT
 have:l.findIdx (fun y=>after y x)≤l.length:=List.findIdx_le_length
 rw[List.length_append,List.length_cons,List.length_take,List.length_drop];omega
theorem WX {α:Type} {is:α→Bool} {l:List α}:(lH is l).length≤l.length:=by
 unfold lH
 rw[List.length_append,List.length_take,List.length_drop];omega
abbrev cX:Type:=ByteArray×ByteArray×dC×a8×dJ×aW×b8
abbrev mY:Type:=aB×aH×cX
abbrev gG (x:aZ):ByteArray:=x.2.1
abbrev eTo (x:aZ):ByteArray:=x.2.2.1
abbrev yW (x:aZ):dC:=x.2.2.2.1
abbrev cW (x:aZ):a8:=x.2.2.2.2.1
abbrev yX (x:aZ):dJ:=x.2.2.2.2.2.1
abbrev gY (x:aZ):aW:=x.2.2.2.2.2.2.1
abbrev nX (x:aZ):b8:=x.2.2.2.2.2.2.2
def b6:ByteArray:=⟨#[]⟩
def iP:b8:=(0,⟨#[]⟩,⟨#[]⟩)
def kT:aB:=(⟨#[]⟩,[],[],[],[],[])
def cZ (x:aZ):aZ :=
 if x.1=1 then (x.1,b6,b6,yW x,dB,dX,noPack,iP)
 else if x.1=3∨x.1=5 then (x.1,b6,b6,dW,cW x,dX,noPack,iP)
 else if x.1=6 then (x.1,gG x,eTo x,dW,dB,dX,noPack,iP)
 else if x.1=7 then (x.1,b6,b6,dW,dB,yX x,noPack,iP)
 else if x.1=9 then (x.1,b6,b6,dW,dB,dX,gY x,iP)
 else if x.1=11∨x.1=12 then (x.1,b6,b6,dW,dB,dX,noPack,nX x)
 else (x.1,gG x,b6,dW,dB,dX,noPack,iP)
def gF (d:aB) (x:aZ):Bool :=
 if x.1=1 then (iC d (yW x).1).isSome
 else if x.1=2 then (iC d (gG x)).isSome
 else if x.1=3∨x.1=5 then (partOf d (cW x).1).isSome
 else if x.1=4∨x.1=6 then (partOf d (gG x)).isSome
 else if x.1=7 then (UB d (yX x).1).isSome
 else if x.1=8 then (UB d (gG x)).isSome
 else if x.1=9 then (nW d (gY x).1).isSome
 else if x.1=10 then (nW d (gG x)).isSome
 else d.2.2.2.2.2.any fun n=>decide (n=nX x)
def lM (x:aZ):Bool:=decide (x.1=1)||decide (x.1=3)||decide (x.1=7)||decide (x.1=9)||decide (x.1=11)
def gtS (a b:ByteArray):Bool:=cM b a
def kF {α:Type} (a b:ByteArray×α):Bool:=gtS a.1 b.1
def EJ (a b:b8):Bool:=ltN b a
theorem QT (a:ByteArray):cM a a=false:=by
 rw[Bool.eq_false_iff]
 intro h
 exact List.lt_irrefl _ ((nL a a).1 h)
theorem BBA {a b c:ByteArray} (h1:cM a b=true) (h2:cM b c=true):cM a c=true:=(nL a c).2 (List.lt_trans ((nL a b).1 h1) ((nL b c).1 h2))
def eA {α:Type} (id:ByteArray) (a:ByteArray×α):Bool:=decide (a.1=id)
def AEX (l:List ByteArray) (x:ByteArray):Bool:=l.any fun y=>decide (y=x)
def kE (d:aB) (id:ByteArray):Bool:=(d.2.2.1.any fun p=>decide (j2 p=id))||((d.2.1.any fun n=>decide (n.2.2=id))||((d.2.2.2.2.1.any fun k=>decide (k.2.1=id))||(d.2.2.2.2.2.any fun n=>decide (n.2.1=id)||(decide (n.2.2=id) && !decide (n.1=3)))))
def nN (d:aB) (id:ByteArray):Bool:=(d.2.2.2.1.any fun s=>decide (s.2.1=id)||decide (s.2.2.1=id))||(d.2.2.2.2.1.any fun k=>AEX k.2.2.1 id)
def pS (d:aB) (id:ByteArray):Bool:=((lH (eA id) d.2.2.2.2.1).any fun k=>AEX k.2.2.2.2 id)||(d.2.2.2.2.2.any fun n=>decide (n.1=3)&&decide (n.2.2=id))
def pQ (d:aB) (x:aZ):Bool:=if x.1=2 then kE d (gG x) else if x.1=4 then nN d (gG x) else if x.1=10 then pS d (gG x) else false
def A40 (p old:a8):a8:=(p.1,IntKind.i64.wrap (old.2.1+1),p.2.2)
def A30 (p:a8) (id:ByteArray):a8:=(p.1,p.2.1,p.2.2.1,id,p.2.2.2.2)
def atI {α:Type} (is:α→Bool) (f:α→α) (l:List α):List α:=l.modify (l.findIdx is) f
def uP (d:aB) (x:aZ):aB :=
 if x.1=1 then (d.1,nT kF d.2.1 (yW x),d.2.2)
 else if x.1=2 then (d.1,lH (eA (gG x)) d.2.1,d.2.2)
 else if x.1=3 then (d.1,d.2.1,nT kF d.2.2.1 (cW x),d.2.2.2)
 else if x.1=4 then (d.1,d.2.1,lH (eA (gG x)) d.2.2.1,d.2.2.2)
 else if x.1=5 then (d.1,d.2.1,atI (eA (cW x).1) (A40 (cW x)) d.2.2.1,d.2.2.2)
 else if x.1=6 then (d.1,d.2.1,atI (eA (gG x)) (fun p=>A30 p (eTo x)) d.2.2.1,d.2.2.2)
 else if x.1=7 then (d.1,d.2.1,d.2.2.1,nT kF d.2.2.2.1 (yX x),d.2.2.2.2)
 else if x.1=8 then (d.1,d.2.1,d.2.2.1,lH (eA (gG x)) d.2.2.2.1,d.2.2.2.2)
 else if x.1=9 then (d.1,d.2.1,d.2.2.1,d.2.2.2.1,nT kF d.2.2.2.2.1 (gY x),d.2.2.2.2.2)
 else if x.1=10 then (d.1,d.2.1,d.2.2.1,d.2.2.2.1,lH (eA (gG x)) d.2.2.2.2.1,d.2.2.2.2.2)
 else if x.1=11 then (d.1,d.2.1,d.2.2.1,d.2.2.2.1,d.2.2.2.2.1,nT EJ d.2.2.2.2.2 (nX x))
 else (d.1,d.2.1,d.2.2.1,d.2.2.2.1,d.2.2.2.2.1,lH (fun n=>decide (n=nX x)) d.2.2.2.2.2)
noncomputable def bT (d:aB) (m:aH) (x:aZ):aB×Int :=
 if ¬ (1≤x.1∧x.1≤12) then (kT,10)
 else if w9 x (cZ x)=false∨(x.1=5∧¬ (cW x).2.1=0) then (kT,2)
 else if lM x=true∧gF d x=true then (kT,7)
 else if lM x=false∧gF d x=false then (kT,8)
 else if x.1=5∧¬ j2 (found dB (partOf d (cW x).1)).1=j2 (cW x) then (kT,2)
 else if pQ d x=true then (kT,34)
 else if gK (uP d x) m=0 then (uP d x,0) else (kT,gK (uP d x) m)
structure APD (d:aB) (m:aH) (x:aZ):Prop where
 kind:1≤x.1∧x.1≤12
 plain:x=cZ x
 rev:x.1=5→(cW x).2.1=0
 there:gF d x = !lM x
 node:x.1=5→j2 (found dB (partOf d (cW x).1)).1=j2 (cW x)
 free:pQ d x=false
 chk:gK (uP d x) m=0
 eq:bT d m x=(uP d x,0)
theorem A2U {d:aB} {m:aH} {x:aZ} (h:(bT d m x).2=0):APD d m x:=by
 have h0:=h
 unfold bT at h
 split at h
 ·cases h
 rename_i h1
 split at h
 ·cases h
 rename_i h2
 split at h
 ·cases h
 rename_i h3
 split at h
 ·cases h
 rename_i h4
 split at h
 ·cases h
 rename_i h5
 split at h
 ·cases h
 rename_i h6
 split at h
 ·rename_i h7
  have h1:1≤x.1∧x.1≤12:=Classical.byContradiction h1
  refine ⟨h1,Classical.byContradiction fun hc=>h2 (.inl (KU hc)),fun hk=>Classical.byContradiction fun hc=>h2 (.inr ⟨hk,hc⟩),?_,fun hk=>Classical.byContradiction fun hc=>h5 ⟨hk,hc⟩,by simpa using h6,h7,?_⟩
  ·cases ha:lM x<;>cases ht:gF d x
   ·exact absurd ⟨ha,ht⟩ h4
   ·rfl
   ·rfl
   ·exact absurd ⟨ha,ht⟩ h3
  ·unfold bT
   rw[if_neg (fun h=>h h1),if_neg h2,if_neg h3,if_neg h4,if_neg h5,if_neg h6,if_pos h7]
 ·rename_i h7;exact absurd h h7
end Go.Pv
namespace Go.Pv
open Go Go.Proofs
def okS (s:ByteArray):Bool:=decide (s.size≤1099511627776)
end Go.Pv
namespace Go.Pv
open Go Go.Proofs
end Go.Pv
namespace Go.Pv
open Go Go.Proofs
structure BEN (d:aB):Prop where
 few:few d 1000=true
 n:d.2.1.length≤1000
 p:d.2.2.1.length≤1000
 s:d.2.2.2.1.length≤1000
 k:d.2.2.2.2.1.length≤1000
 r:d.2.2.2.2.2.length≤1000
 kl:∀ k∈d.2.2.2.2.1,(iU k).length≤1000∧(fL k).length≤1000
 QE:QE d=true
 OE:OE d=true
structure UOk (d:aB):Prop extends BEN d where
 nI:∀ n∈d.2.1,okS n.1=true
 pI:∀ p∈d.2.2.1,okS p.1=true∧okS (j2 p)=true
 sI:∀ s∈d.2.2.2.1,okS s.1=true∧okS s.2.1=true∧okS s.2.2.1=true
 kI:∀ k∈d.2.2.2.2.1,okS k.1=true
theorem oW (a b:ByteArray):(!(cM b a||decide (b=a)))=cM a b:=by
 rw[Bool.eq_iff_iff]
 refine ⟨fun h=>(nL a b).2 (AHL h),fun h=>?_⟩
 have h1:=(nL a b).1 h
 have h2:cM b a=false:=by
  rw[Bool.eq_false_iff]
  intro h3
  exact List.lt_irrefl _ (List.lt_trans h1 ((nL b a).1 h3))
 have h3:¬ b=a:=fun e=>by rw[e] at h1;exact List.lt_irrefl _ h1
 rw[h2,decide_eq_false h3];rfl
end Go.Pv
namespace Go.Pv
open Go Go.Proofs
theorem cL {r:Sy} {l:List r.den} (p:r.den→Bool) {Body:(Int×PUnit→Prop)→Int×PUnit→r.den→Prop} {Fin:Prop} (hl:l.length≤140737488355328)
  (hB:∀ (X:Int×PUnit→Prop) (k:Nat) (y:r.den) (h:k<l.length),l[k]=y→(p y=true→l.findIdx p=k∧l.any p=true)→(p y=false→X (IntKind.i64.wrap ((k:Int)+1),()))→Body X ((k:Int),()) y)
  (hF:l.findIdx p=l.length→l.any p=false→Fin) :
  a7 (Int×PUnit) (fun X s=>aD (decide (s.1<((List.map r.enc l).length:Int))) (aS r (List.map r.enc l) s.1 fun y=>Body X s y) Fin) (0,()):=by
 refine bK l.length (fun k s=>s=((k:Int),())∧∀ i,(h:i<l.length)→i<k→p l[i]=false) ⟨rfl,fun i _ h=>by omega⟩ ?_
 rintro X k s hk ⟨rfl,he⟩ hX
 dsimp only
 refine bZ (fun hlt=>?_) fun hge=>?_
 ·rw[List.length_map] at hlt
  have hlt:k<l.length:=by omega
  rw[bD (r:=r) hlt]
  refine hB X k _ hlt rfl (fun hp=>⟨?_,List.any_eq_true.2 ⟨_,List.getElem_mem hlt,hp⟩⟩) fun hp=>hX _ hlt ⟨?_,fun i hi hik=>?_⟩
  ·exact (List.findIdx_eq hlt).2 ⟨hp,fun j hj=>he j (by omega) hj⟩
  ·rw[show IntKind.i64.wrap ((k:Int)+1)=((k+1:Nat):Int) by rw[bB]<;>omega]
  ·rcases Nat.lt_or_ge i k with h|h
   ·exact he i hi h
   ·have:i=k:=by omega
    subst this;exact hp
 ·rw[List.length_map] at hge
  have hall:∀ y∈l,p y=false:=fun y hy=>by
   obtain ⟨i,hi,rfl⟩:=List.mem_iff_getElem.1 hy
   exact he i hi (by omega)
  exact hF (List.findIdx_eq_length_of_false fun y hy=>by simpa using hall y hy) (List.any_eq_false.2 fun y hy=>by simp[hall y hy])
theorem nU {n:Nat} (h:n≤1000):n≤140737488355328:=by omega
theorem vD {α:Type} {is:α→Bool} {l:List α} (h:l.findIdx is=l.length):lH is l=l:=by
 unfold lH
 rw[h,List.take_length,List.drop_eq_nil_of_le (by omega),List.append_nil]
theorem rA {r:Sy} {z b k:Nat} {f:Bool} {l:List r.den} {x:r.den} (hz:r.w=z) (hk:k≤l.length) (hl:l.length≤1000) (hb:b≤1000):SR z b (List.map r.enc l) [.v (.int .i64 (k:Int)),.sl f [r.enc x]]=some (List.map r.enc (l.take k++x::l.drop k)):=by
 unfold SR
 have hm:(l.length+1)*b≤1001*1000:=Nat.mul_le_mul (by omega) hb
 have hc:(decide (0≤(k:Int))&&decide ((k:Int).toNat≤(List.map r.enc l).length)&&decide ((r.enc x).length=z)&&fS z (List.map r.enc l)&&decide (((List.map r.enc l).length+1)*b≤140737488355328)&&decide ((List.map r.enc l).length+1≤140737488355328))=true:=by
  subst hz
  simp only[List.length_map,Int.toNat_natCast,Sy.cP,u6,Bool.and_eq_true,decide_eq_true_eq,and_true]
  omega
 dsimp only
 rw[hc]
 simp
theorem EO {r:Sy} {z k:Nat} {l:List r.den} (hz:r.w=z) (hk:k<l.length) (hl:l.length≤1000):SQ z (List.map r.enc l) [.v (.int .i64 (k:Int)),.v (.int .i64 (IntKind.i64.wrap ((k:Int)+1)))]=some (List.map r.enc (l.take k++l.drop (k+1))):=by
 unfold SQ
 have hw:IntKind.i64.wrap ((k:Int)+1)=(k:Int)+1:=by rw[bB]<;>omega
 have hc:(decide (0≤(k:Int))&&decide (IntKind.i64.wrap ((k:Int)+1)=(k:Int)+1)&&decide ((k:Int).toNat<(List.map r.enc l).length)&&fS z (List.map r.enc l))=true:=by
  subst hz
  rw[hw]
  simp only[List.length_map,Int.toNat_natCast,u6,Bool.and_eq_true,decide_eq_true_eq,and_true]
  omega
 dsimp only
 rw[hc]
 simp
def UI (x:aZ):Option T:=some (Sh.enc [(true,aM)] ((x.1,b6,b6,yW x,dB,dX,noPack,iP):aZ))
noncomputable def BB3:Env:=Env.of []
def BCN:FuncId→Hint:=fun _=>aX
theorem A1C:aQ Tryz.prog BB3:=.nil _
def AR1(a0:aZ)(R:T→Prop):Prop:=R ((aF true aM (a0.1,b6,b6,a0.2.2.2.1,dB,dX,noPack,iP)))
abbrev AZF:Sh:=[(true,aM)]
noncomputable def YP:List T→Option T:=gS AZF UI
theorem AV4 {a0}:YP [aF true aM a0]=UI (a0):=bC (s:=AZF) rfl (a0) rfl
theorem BAI:rM Tryz.prog 193 YP UI (b9 AZF) AR1:=gQ (a1:=(true,aM)) (sp:=UI) (F:=AR1) (Hs:=BCN) (f:=193) (k:=8) A1C aR aU (aL rfl) ⟨_,_,Tryz.func193,rfl⟩ rfl fun _ _=>by kernel_rfl
theorem A8M:aN Tryz.prog 193 YP:=BAI fun x r h hb=>by
 cases h
 unfold AR1
 rfl
def UJ (x:aZ):Option T:=some (Sh.enc [(true,aM)] ((x.1,gG x,b6,dW,dB,dX,noPack,iP):aZ))
noncomputable def BB4:Env:=Env.of []
def BCO:FuncId→Hint:=fun _=>aX
theorem A1D:aQ Tryz.prog BB4:=.nil _
def BG4(a0:aZ):T:=aF true aM (a0.1,a0.2.1,b6,dW,dB,dX,noPack,iP)
def AR2(a0:aZ)(R:T→Prop):Prop:=R ((BG4 a0))
abbrev AZG:Sh:=[(true,aM)]
noncomputable def YQ:List T→Option T:=gS AZG UJ
theorem AV5 {a0}:YQ [aF true aM a0]=UJ (a0):=bC (s:=AZG) rfl (a0) rfl
theorem BAJ:rM Tryz.prog 201 YQ UJ (b9 AZG) AR2:=gQ (a1:=(true,aM)) (sp:=UJ) (F:=AR2) (Hs:=BCO) (f:=201) (k:=8) A1D aR aU (aL rfl) ⟨_,_,Tryz.func201,rfl⟩ rfl fun _ _=>by kernel_rfl
theorem A8N:aN Tryz.prog 201 YQ:=BAJ fun x r h hb=>by
 cases h
 unfold AR2 BG4
 rfl
def UK (x:aZ):Option T:=some (Sh.enc [(true,aM)] ((x.1,b6,b6,dW,cW x,dX,noPack,iP):aZ))
noncomputable def BB5:Env:=Env.of []
def BCP:FuncId→Hint:=fun _=>aX
theorem A1E:aQ Tryz.prog BB5:=.nil _
def AR3(a0:aZ)(R:T→Prop):Prop:=R ((aF true aM (a0.1,b6,b6,dW,a0.2.2.2.2.1,dX,noPack,iP)))
abbrev AZH:Sh:=[(true,aM)]
noncomputable def YR:List T→Option T:=gS AZH UK
theorem AV6 {a0}:YR [aF true aM a0]=UK (a0):=bC (s:=AZH) rfl (a0) rfl
theorem BAK:rM Tryz.prog 213 YR UK (b9 AZH) AR3:=gQ (a1:=(true,aM)) (sp:=UK) (F:=AR3) (Hs:=BCP) (f:=213) (k:=8) A1E aR aU (aL rfl) ⟨_,_,Tryz.func213,rfl⟩ rfl fun _ _=>by kernel_rfl
theorem A8O:aN Tryz.prog 213 YR:=BAK fun x r h hb=>by
 cases h
 unfold AR3
 rfl
def UL (x:aZ):Option T:=some (Sh.enc [(true,aM)] ((x.1,gG x,b6,dW,dB,dX,noPack,iP):aZ))
noncomputable def BB6:Env:=Env.of []
def BCQ:FuncId→Hint:=fun _=>aX
theorem A1F:aQ Tryz.prog BB6:=.nil _
def AR4(a0:aZ)(R:T→Prop):Prop:=R ((BG4 a0))
abbrev AZI:Sh:=[(true,aM)]
noncomputable def YS:List T→Option T:=gS AZI UL
theorem AV7 {a0}:YS [aF true aM a0]=UL (a0):=bC (s:=AZI) rfl (a0) rfl
theorem BAL:rM Tryz.prog 220 YS UL (b9 AZI) AR4:=gQ (a1:=(true,aM)) (sp:=UL) (F:=AR4) (Hs:=BCQ) (f:=220) (k:=8) A1F aR aU (aL rfl) ⟨_,_,Tryz.func220,rfl⟩ rfl fun _ _=>by kernel_rfl
theorem A8P:aN Tryz.prog 220 YS:=BAL fun x r h hb=>by
 cases h
 unfold AR4 BG4
 rfl
def UO (x:aZ):Option T:=some (Sh.enc [(true,aM)] ((x.1,b6,b6,dW,dB,yX x,noPack,iP):aZ))
noncomputable def BB9:Env:=Env.of []
def BCT:FuncId→Hint:=fun _=>aX
theorem A1I:aQ Tryz.prog BB9:=.nil _
def AR7(a0:aZ)(R:T→Prop):Prop:=R ((aF true aM (a0.1,b6,b6,dW,dB,a0.2.2.2.2.2.1,noPack,iP)))
abbrev AZL:Sh:=[(true,aM)]
noncomputable def YT:List T→Option T:=gS AZL UO
theorem AWA {a0}:YT [aF true aM a0]=UO (a0):=bC (s:=AZL) rfl (a0) rfl
theorem BAO:rM Tryz.prog 241 YT UO (b9 AZL) AR7:=gQ (a1:=(true,aM)) (sp:=UO) (F:=AR7) (Hs:=BCT) (f:=241) (k:=8) A1I aR aU (aL rfl) ⟨_,_,Tryz.func241,rfl⟩ rfl fun _ _=>by kernel_rfl
theorem A8S:aN Tryz.prog 241 YT:=BAO fun x r h hb=>by
 cases h
 unfold AR7
 rfl
def UP (x:aZ):Option T:=some (Sh.enc [(true,aM)] ((x.1,gG x,b6,dW,dB,dX,noPack,iP):aZ))
noncomputable def BCA:Env:=Env.of []
def BCU:FuncId→Hint:=fun _=>aX
theorem A1J:aQ Tryz.prog BCA:=.nil _
def AR8(a0:aZ)(R:T→Prop):Prop:=R ((BG4 a0))
abbrev AZM:Sh:=[(true,aM)]
noncomputable def YU:List T→Option T:=gS AZM UP
theorem AWB {a0}:YU [aF true aM a0]=UP (a0):=bC (s:=AZM) rfl (a0) rfl
theorem BAP:rM Tryz.prog 249 YU UP (b9 AZM) AR8:=gQ (a1:=(true,aM)) (sp:=UP) (F:=AR8) (Hs:=BCU) (f:=249) (k:=8) A1J aR aU (aL rfl) ⟨_,_,Tryz.func249,rfl⟩ rfl fun _ _=>by kernel_rfl
theorem A8T:aN Tryz.prog 249 YU:=BAP fun x r h hb=>by
 cases h
 unfold AR8 BG4
 rfl
def UQ (x:aZ):Option T:=some (Sh.enc [(true,aM)] ((x.1,b6,b6,dW,dB,dX,gY x,iP):aZ))
noncomputable def BCB:Env:=Env.of []
def BCV:FuncId→Hint:=fun _=>aX
theorem A1K:aQ Tryz.prog BCB:=.nil _
def AR9(a0:aZ)(R:T→Prop):Prop:=R ((aF true aM (a0.1,b6,b6,dW,dB,dX,a0.2.2.2.2.2.2.1,iP)))
abbrev AZN:Sh:=[(true,aM)]
noncomputable def YV:List T→Option T:=gS AZN UQ
theorem AWC {a0}:YV [aF true aM a0]=UQ (a0):=bC (s:=AZN) rfl (a0) rfl
theorem BAQ:rM Tryz.prog 261 YV UQ (b9 AZN) AR9:=gQ (a1:=(true,aM)) (sp:=UQ) (F:=AR9) (Hs:=BCV) (f:=261) (k:=8) A1K aR aU (aL rfl) ⟨_,_,Tryz.func261,rfl⟩ rfl fun _ _=>by kernel_rfl
theorem A8U:aN Tryz.prog 261 YV:=BAQ fun x r h hb=>by
 cases h
 unfold AR9
 rfl
def IJ (x:aZ):Option T:=some (Sh.enc [(true,aM)] ((x.1,gG x,b6,dW,dB,dX,noPack,iP):aZ))
noncomputable def A6X:Env:=Env.of []
def A7B:FuncId→Hint:=fun _=>aX
theorem AQW:aQ Tryz.prog A6X:=.nil _
def ACR(a0:aZ)(R:T→Prop):Prop:=R ((BG4 a0))
abbrev AGB:Sh:=[(true,aM)]
noncomputable def LQ:List T→Option T:=gS AGB IJ
theorem AM8 {a0}:LQ [aF true aM a0]=IJ (a0):=bC (s:=AGB) rfl (a0) rfl
theorem A4L:rM Tryz.prog 270 LQ IJ (b9 AGB) ACR:=gQ (a1:=(true,aM)) (sp:=IJ) (F:=ACR) (Hs:=A7B) (f:=270) (k:=8) AQW aR aU (aL rfl) ⟨_,_,Tryz.func270,rfl⟩ rfl fun _ _=>by kernel_rfl
theorem A3F:aN Tryz.prog 270 LQ:=A4L fun x r h hb=>by
 cases h
 unfold ACR BG4
 rfl
def IK (x:aZ):Option T:=some (Sh.enc [(true,aM)] ((x.1,b6,b6,dW,dB,dX,noPack,nX x):aZ))
noncomputable def A6Y:Env:=Env.of []
def A7C:FuncId→Hint:=fun _=>aX
theorem AQX:aQ Tryz.prog A6Y:=.nil _
def ACS(a0:aZ)(R:T→Prop):Prop:=R ((aF true aM (a0.1,b6,b6,dW,dB,dX,noPack,a0.2.2.2.2.2.2.2)))
abbrev AGC:Sh:=[(true,aM)]
noncomputable def tE:List T→Option T:=gS AGC IK
theorem PT {a0}:tE [aF true aM a0]=IK (a0):=bC (s:=AGC) rfl (a0) rfl
theorem A4M:rM Tryz.prog 276 tE IK (b9 AGC) ACS:=gQ (a1:=(true,aM)) (sp:=IK) (F:=ACS) (Hs:=A7C) (f:=276) (k:=8) AQX aR aU (aL rfl) ⟨_,_,Tryz.func276,rfl⟩ rfl fun _ _=>by kernel_rfl
theorem AH2:aN Tryz.prog 276 tE:=A4M fun x r h hb=>by
 cases h
 unfold ACS
 rfl
def yI (x:aB×aZ):Option T:=some (T.v (.bool false))
noncomputable def AQG:Env:=Env.of []
def ATA:FuncId→Hint:=fun _=>aX
theorem AB6:aQ Tryz.prog AQG:=.nil _
def JY(a0:aB)(a1:aZ)(R:T→Prop):Prop:=R BFB
abbrev M7:Sh:=[(true,aC),(true,aM)]
noncomputable def jD:List T→Option T:=gS M7 yI
theorem G8 {a0 a1}:jD [aF true aC a0,aF true aM a1]=yI (a0,a1):=bC (s:=M7) rfl (a0,a1) rfl
theorem AOO:yL Tryz.prog 229 jD yI (b9 M7) JY:=jZ (a1:=(true,aC)) (a2:=(true,aM)) (sp:=yI) (F:=JY) (Hs:=ATA) (f:=229) (k:=8) AB6 aR aU (aL rfl) ⟨_,_,Tryz.func229,rfl⟩ rfl fun _ _ _=>by kernel_rfl
theorem rQ:aN Tryz.prog 229 jD:=AOO fun d x r h hb=>by
 cases h
 unfold JY BFB
 rfl
theorem rC {c:Bool} {a r:T} (h:(match c with|true=>some a|false=>none)=some r):c=true∧a=r:=by
 cases c with
 | true=>exact ⟨rfl,Option.some.inj h⟩
 | false=>cases h
def DV (x:aB×aZ):Option T:=match pU x.1 with
 | true=>some (T.v (.bool (nN x.1 (gG x.2))))
 | false=>none
noncomputable def A0P:Env:=Env.of []
def A15:FuncId→Hint:=bV 304 [(2,.inv [.val 8 false (.int .i64)])] (bV 309 [(2,.inv [.val 8 false (.int .i64)])] (bV 310 [(2,.inv [.val 8 false (.int .i64)])] (fun _=>aX)))
theorem AKS:aQ Tryz.prog A0P:=.nil _
def BF7(a0:aB)(a1:aZ)(R:T→Prop):Prop:=a7 (Int×PUnit) (fun X3 s4=>aD (decide (s4.1<(↑(BF0 a0).length:Int))) (aS aE (BF0 a0) s4.1 fun (y5:aW)=>a7 (Int×PUnit) (fun X6 s7=>aD (decide (s7.1<(↑(BG3 y5).length:Int))) (aS Sy.str (BG3 y5) s7.1 fun (y8:ByteArray)=>aD (decide (a1.2.1=y8)) (aD (decide (0≤s7.1)) (R (BGU s4)) (BF1 X3 s4)) (BF1 X6 s7)) (BF1 X3 s4)) (0,())) (R BFB)) (0,())
def R0(a0:aB)(a1:aZ)(R:T→Prop):Prop:=a7 (Int×PUnit) (fun X0 s1=>aD (decide (s1.1<(↑(BF5 a0).length:Int))) (aS aY (BF5 a0) s1.1 fun (y2:dJ)=>aD (decide (y2.2.1=a1.2.1)) (aD (decide (0≤s1.1)) (R BFI) (BF7 a0 a1 R)) (aD (decide (y2.2.2.1=a1.2.1)) (aD (decide (0≤s1.1)) (R BFI) (BF7 a0 a1 R)) (BF1 X0 s1))) (BF7 a0 a1 R)) (0,())
abbrev T9:Sh:=[(true,aC),(true,aM)]
noncomputable def B6:List T→Option T:=gS T9 DV
theorem AEV {a0 a1}:B6 [aF true aC a0,aF true aM a1]=DV (a0,a1):=bC (s:=T9) rfl (a0,a1) rfl
theorem AYA:yL Tryz.prog 208 B6 DV (b9 T9) R0:=jZ (a1:=(true,aC)) (a2:=(true,aM)) (sp:=DV) (F:=R0) (Hs:=A15) (f:=208) (k:=8) AKS aR aU (aL rfl) ⟨_,_,Tryz.func208,rfl⟩ rfl fun _ _ _=>by kernel_rfl
theorem AU6:aN Tryz.prog 208 B6:=AYA fun d x r h hb=>by
 clear hb
 obtain ⟨hp,rfl⟩:=rC h
 clear h
 have c:=eV hp
 have hk:∀ k∈d.2.2.2.2.1,k.2.2.1.length≤140737488355328∧k.2.2.2.2.length≤140737488355328:=fun k hk=>by
  have:=List.all_eq_true.1 c.OE k hk
  simp only[dY,eB,Bool.and_eq_true,decide_eq_true_eq] at this
  exact ⟨this.1.2,this.2.2⟩
 have is:∀ {b:Bool},nN d (gG x)=b→T.v (.bool b)=T.v (.bool (nN d (gG x))):=fun h=>by rw[h]
 have pos:∀ {k:Nat},¬ (0≤(k:Int))→False:=fun h=>h (by omega)
 unfold R0 BF7 BG3 BF5 BF0 BGU BF1 BFI BFB
 refine cL (r:=aY) (fun s=>decide (s.2.1=gG x)||decide (s.2.2.1=gG x)) (nU c.s) (fun X k y hlt hy hp hn=>?_) (fun _ h1=>?_)
 ·dsimp only
  have yes:(decide (y.2.1=gG x)||decide (y.2.2.1=gG x))=true→nN d (gG x)=true:=fun h=>by unfold nN;rw[(hp h).2];rfl
  refine bZ (fun h=>bZ (fun _=>is (yes (by rw[decide_eq_true h];rfl))) fun h=>(pos h).elim) fun h=>?_
  refine bZ (fun h2=>bZ (fun _=>is (yes (by rw[decide_eq_true h2,Bool.or_true]))) fun h=>(pos h).elim) fun h2=>hn ?_
  rw[decide_eq_false h,decide_eq_false h2];rfl
 ·refine cL (r:=aE) (fun k=>AEX k.2.2.1 (gG x)) (nU c.k) (fun X k y hlt hy hp hn=>?_) (fun _ h2=>is ?_)
  ·dsimp only
   refine cL (r:=.str) (fun z=>decide (z=gG x)) (hk y (by rw[←hy];exact List.getElem_mem hlt)).1 (fun Y j z hj hz hp2 hn2=>?_) (fun _ h3=>hn h3)
   dsimp only
   refine bZ (fun h=>bZ (fun _=>is ?_) fun h=>(pos h).elim) fun h=>hn2 (decide_eq_false fun e=>h e.symm)
   have:=(hp (hp2 (decide_eq_true h.symm)).2).2
   rw[show decide ((0:Int)≤(k:Int))=true from decide_eq_true (by omega)]
   unfold nN;rw[this,Bool.or_true]
  ·unfold nN;rw[h1,h2];rfl
def DT (x:aB×aZ):Option T:=match pU x.1 with
 | true=>some (T.v (.bool (kE x.1 (gG x.2))))
 | false=>none
noncomputable def A0N:Env:=Env.of []
def A13:FuncId→Hint:=bV 231 [(2,.inv [.val 8 false (.int .i64)])] (bV 303 [(2,.inv [.val 8 false (.int .i64)])] (bV 304 [(2,.inv [.val 8 false (.int .i64)])] (bV 305 [(2,.inv [.val 8 false (.int .i64)])] (fun _=>aX))))
theorem AKQ:aQ Tryz.prog A0N:=.nil _
def BHK(a0:aB)(s10:Int×PUnit)(a1:aZ)(R:T→Prop)(X9:Int×PUnit→Prop):Prop:=aS aP (BFZ a0) s10.1 fun (y11:b8)=>aD (decide (y11.2.1=a1.2.1)) (R (BGU s10)) (aD (decide (y11.2.2=a1.2.1)) (aD (!decide (y11.1=3)) (R (BGU s10)) (BF1 X9 s10)) (BF1 X9 s10))
def BFX(a0:aB)(a1:aZ)(R:T→Prop):Prop:=a7 (Int×PUnit) (fun X12 s13=>aD (decide (s13.1<(↑(BFZ a0).length:Int))) (BHK a0 s13 a1 R X12) (R BFB)) (0,())
def BGF(a0:aB)(a1:aZ)(R:T→Prop):Prop:=a7 (Int×PUnit) (fun X15 s16=>aD (decide (s16.1<(↑(BF0 a0).length:Int))) (aS aE (BF0 a0) s16.1 fun (y17:aW)=>aD (decide (y17.2.1=a1.2.1)) (aD (decide (0≤s16.1)) (R BFI) (BFX a0 a1 R)) (BF1 X15 s16)) (BFX a0 a1 R)) (0,())
def RY(a0:aB)(a1:aZ)(R:T→Prop):Prop:=a7 (Int×PUnit) (fun X0 s1=>aD (decide (s1.1<(↑(BF2 a0).length:Int))) (aS aK (BF2 a0) s1.1 fun (y2:a8)=>aD (decide (y2.2.2.2.1=a1.2.1)) (aD (decide (0≤s1.1)) (R BFI) (a7 (Int×PUnit) (fun X3 s4=>aD (decide (s4.1<(↑(BF8 a0).length:Int))) (aS aV (BF8 a0) s4.1 fun (y5:dC)=>aD (decide (y5.2.2=a1.2.1)) (aD (decide (0≤s4.1)) (R BFI) (a7 (Int×PUnit) (fun X6 s7=>aD (decide (s7.1<(↑(BF0 a0).length:Int))) (aS aE (BF0 a0) s7.1 fun (y8:aW)=>aD (decide (y8.2.1=a1.2.1)) (aD (decide (0≤s7.1)) (R BFI) (a7 (Int×PUnit) (fun X9 s10=>aD (decide (s10.1 < (↑(BFZ a0).length:Int))) (BHK a0 s10 a1 R X9) (R BFB)) (0,()))) (BF1 X6 s7)) (BFX a0 a1 R)) (0,()))) (BF1 X3 s4)) (BGF a0 a1 R)) (0,()))) (BF1 X0 s1)) (a7 (Int×PUnit) (fun X24 s25=>aD (decide (s25.1<(↑(BF8 a0).length:Int))) (aS aV (BF8 a0) s25.1 fun (y26:dC)=>aD (decide (y26.2.2=a1.2.1)) (aD (decide (0≤s25.1)) (R BFI) (BGF a0 a1 R)) (BF1 X24 s25)) (BGF a0 a1 R)) (0,()))) (0,())
abbrev T7:Sh:=[(true,aC),(true,aM)]
noncomputable def B4:List T→Option T:=gS T7 DT
theorem AET {a0 a1}:B4 [aF true aC a0,aF true aM a1]=DT (a0,a1):=bC (s:=T7) rfl (a0,a1) rfl
theorem AX8:yL Tryz.prog 184 B4 DT (b9 T7) RY:=jZ (a1:=(true,aC)) (a2:=(true,aM)) (sp:=DT) (F:=RY) (Hs:=A13) (f:=184) (k:=8) AKQ aR aU (aL rfl) ⟨_,_,Tryz.func184,rfl⟩ rfl fun _ _ _=>by kernel_rfl
theorem AU4:aN Tryz.prog 184 B4:=AX8 fun d x r h hb=>by
 clear hb
 obtain ⟨hp,rfl⟩:=rC h
 clear h
 have c:=eV hp
 have is:∀ {b:Bool},kE d (gG x)=b→T.v (.bool b)=T.v (.bool (kE d (gG x))):=fun h=>by rw[h]
 have pos:∀ {k:Nat},¬ (0≤(k:Int))→False:=fun h=>h (by omega)
 have d0:∀ {k:Nat},decide ((0:Int)≤(k:Int))=true:=decide_eq_true (by omega)
 unfold RY BGF BF8 BF2 BF0 BFX BHK BGU BF1 BFZ BFI BFB
 refine cL (r:=aK) (fun p=>decide (j2 p=gG x)) (nU c.p) (fun X k y hlt hy hp hn=>?_) (fun _ h1=>?_)
 ·dsimp only
  exact bZ (fun h=>bZ (fun _=>is (by unfold kE;rw[(hp (decide_eq_true h)).2];rfl)) fun h=>(pos h).elim) fun h=>hn (decide_eq_false h)
 refine cL (r:=aV) (fun n=>decide (n.2.2=gG x)) (nU c.n) (fun X k y hlt hy hp hn=>?_) (fun _ h2=>?_)
 ·dsimp only
  exact bZ (fun h=>bZ (fun _=>is (by unfold kE;rw[h1,(hp (decide_eq_true h)).2];rfl)) fun h=>(pos h).elim) fun h=>hn (decide_eq_false h)
 refine cL (r:=aE) (fun k=>decide (k.2.1=gG x)) (nU c.k) (fun X k y hlt hy hp hn=>?_) (fun _ h3=>?_)
 ·dsimp only
  exact bZ (fun h=>bZ (fun _=>is (by unfold kE;rw[h1,h2,(hp (decide_eq_true h)).2];rfl)) fun h=>(pos h).elim) fun h=>hn (decide_eq_false h)
 refine cL (r:=aP) (fun n=>decide (n.2.1=gG x)||(decide (n.2.2=gG x) && !decide (n.1=3))) (nU c.r) (fun X k y hlt hy hp hn=>?_) (fun _ h4=>is (by unfold kE;rw[h1,h2,h3,h4];rfl))
 dsimp only
 have yes:(decide (y.2.1=gG x)||(decide (y.2.2=gG x) && !decide (y.1=3)))=true→kE d (gG x)=decide ((0:Int)≤(k:Int)):=fun h=>by rw[d0];unfold kE;rw[h1,h2,h3,(hp h).2];rfl
 refine bZ (fun h=>is (yes (by rw[decide_eq_true h];rfl))) fun a1=>?_
 refine bZ (fun a2=>?_) fun a2=>hn (by rw[decide_eq_false a1,decide_eq_false a2];rfl)
 refine lI (fun a3=>is (yes (by rw[decide_eq_true a2,decide_eq_false a3];simp))) fun a3=>hn (by rw[decide_eq_false a1,decide_eq_true a3,Bool.not_true,Bool.and_false];rfl)
def DU (x:aB×aZ):Option T:=match pU x.1 with
 | true=>some (T.v (.bool (pS x.1 (gG x.2))))
 | false=>none
noncomputable def A0O:Env:=Env.of [(159,.dup 5 88),(317,.grow 5 lT)]
def A14:FuncId→Hint:=bV 304 [(2,.inv [.val 8 false (.int .i64)])] (bV 305 [(2,.inv [.val 8 false (.int .i64)])] (bV 310 [(2,.inv [.val 8 false (.int .i64)])] (fun _=>aX)))
theorem AKR:aQ Tryz.prog A0O:=aQ.cons (x:=.dup 5 88) mT (.cons zA (.nil _))
def BF9(a0:aB)(a1:aZ)(R:T→Prop):Prop:=a7 (Int×PUnit) (fun X13 s14=>aD (decide (s14.1<(↑(BFZ a0).length:Int))) (aS aP (BFZ a0) s14.1 fun (y15:b8)=>aD (decide (y15.1=3)) (aD (decide (y15.2.2=a1.2.1)) (R (BGU s14)) (BF1 X13 s14)) (BF1 X13 s14)) (R BFB)) (0,())
def BGC(y6:aW)(a1:aZ)(s4:Int×PUnit)(R:T→Prop)(a0:aB)(X3:Int×PUnit→Prop):Prop:=a7 (Int×PUnit) (fun X7 s8=>aD (decide (s8.1<(↑(BGR y6).length:Int))) (aS Sy.str (BGR y6) s8.1 fun (y9:ByteArray)=>aD (decide (a1.2.1=y9)) (aD (decide (0≤s8.1)) (aD (decide (0≤s4.1)) (R BFI) (a7 (Int×PUnit) (fun X10 s11=>aD (decide (s11.1 < (↑(BFZ a0).length:Int))) (aS aP (BFZ a0) s11.1 fun (y12:b8)=>aD (decide (y12.1=3)) (aD (decide (y12.2.2=a1.2.1)) (R (BGU s11)) (BF1 X10 s11)) (BF1 X10 s11)) (R BFB)) (0,()))) (BF1 X3 s4)) (BF1 X7 s8)) (BF1 X3 s4)) (0,())
def BGN(s1:Int×PUnit):List T:=[T.v (.int .i64 s1.1), T.v (.int .i64 (IntKind.i64.wrap (s1.1+1)))]
def RZ(a0:aB)(a1:aZ)(R:T→Prop):Prop:=a7 (Int×PUnit) (fun X0 s1=>aD (decide (s1.1<(↑(BF0 a0).length:Int))) (aS aE (BF0 a0) s1.1 fun (y2:aW)=>aD (decide (y2.1=a1.2.1)) (aD (decide (s1.1<0)) (bN (((BF0 a0).all fun (r:List T)=>decide (r.length=5)) && decide ((BF0 a0).length*88≤140737488355328) && decide ((BF0 a0).length≤140737488355328)) (a7 (Int×PUnit) (fun X3 s4=>aD (decide (s4.1<(↑(BF0 a0).length:Int))) (aS aE (BF0 a0) s4.1 fun (y5:aW)=>gZ aE (BF0 a0) (Int.toNat s4.1) 0 fun (y6:aW)=>BGC y6 a1 s4 R a0 X3) (BF9 a0 a1 R)) (0,()))) (bN (((BF0 a0).all fun (r:List T)=>decide (r.length=5)) && decide ((BF0 a0).length*88≤140737488355328) && decide ((BF0 a0).length≤140737488355328)) (eE aE (lT (BF0 a0) (BGN s1)) fun (y16:List aW)=>a7 (Int×PUnit) (fun X17 s18=>aD (decide (s18.1<(↑(List.map aE.enc y16).length:Int))) (aS aE (List.map aE.enc y16) s18.1 fun (y19:aW)=>gZ aE (List.map aE.enc y16) (Int.toNat s18.1) 0 fun (y20:aW)=>BGC y20 a1 s18 R a0 X17) (BF9 a0 a1 R)) (0,())))) (BF1 X0 s1)) (bN (((BF0 a0).all fun (r:List T)=>decide (r.length=5)) && decide ((BF0 a0).length*88≤140737488355328) && decide ((BF0 a0).length≤140737488355328)) (a7 (Int×PUnit) (fun X30 s31=>aD (decide (s31.1<(↑(BF0 a0).length:Int))) (aS aE (BF0 a0) s31.1 fun (y32:aW)=>gZ aE (BF0 a0) (Int.toNat s31.1) 0 fun (y33:aW)=>a7 (Int×PUnit) (fun X34 s35=>aD (decide (s35.1<(↑(BGR y33).length:Int))) (aS Sy.str (BGR y33) s35.1 fun (y36:ByteArray)=>aD (decide (a1.2.1=y36)) (aD (decide (0≤s35.1)) (aD (decide (0≤s31.1)) (R BFI) (BF9 a0 a1 R)) (BF1 X30 s31)) (BF1 X34 s35)) (BF1 X30 s31)) (0,())) (BF9 a0 a1 R)) (0,())))) (0,())
abbrev T8:Sh:=[(true,aC),(true,aM)]
noncomputable def B5:List T→Option T:=gS T8 DU
theorem AEU {a0 a1}:B5 [aF true aC a0,aF true aM a1]=DU (a0,a1):=bC (s:=T8) rfl (a0,a1) rfl
theorem AX9:yL Tryz.prog 256 B5 DU (b9 T8) RZ:=jZ (a1:=(true,aC)) (a2:=(true,aM)) (sp:=DU) (F:=RZ) (Hs:=A14) (f:=256) (k:=8) AKR aR aU (aL rfl) ⟨_,_,Tryz.func256,rfl⟩ rfl fun _ _ _=>by kernel_rfl
theorem AU5:aN Tryz.prog 256 B5:=AX9 fun d x r h hb=>by
 clear hb
 obtain ⟨hp,rfl⟩:=rC h
 clear h
 have c:=eV hp
 have hk:∀ k∈d.2.2.2.2.1,k.2.2.1.length≤140737488355328∧k.2.2.2.2.length≤140737488355328:=fun k hk=>by
  have:=List.all_eq_true.1 c.OE k hk
  simp only[dY,eB,Bool.and_eq_true,decide_eq_true_eq] at this
  exact ⟨this.1.2,this.2.2⟩
 have is:∀ {b:Bool},pS d (gG x)=b→T.v (.bool b)=T.v (.bool (pS d (gG x))):=fun h=>by rw[h]
 have pos:∀ {k:Nat},¬ (0≤(k:Int))→False:=fun h=>h (by omega)
 have d0:∀ {k:Nat},decide ((0:Int)≤(k:Int))=true:=decide_eq_true (by omega)
 have hd:=vE (r:=aE) (l:=d.2.2.2.2.1) (z:=5) (b:=88) rfl (dE c.k (by decide))
 unfold RZ BGN BGC BGR BF9 BF0 BGU BF1 BFZ BFI BFB
 refine cL (r:=aE) (fun y=>eA (gG x) y) (nU c.k) (fun X k y hlt hy hp hn=>?_) (fun h0 _=>?_)
 ·dsimp only
  refine bZ (fun h=>?_) fun h=>hn (decide_eq_false h)
  obtain ⟨hi,_⟩:=hp (decide_eq_true h)
  refine bZ (fun h=>by omega) fun _=>⟨hd,?_⟩
  have eL:lH (eA (gG x)) d.2.2.2.2.1=d.2.2.2.2.1.take k++d.2.2.2.2.1.drop (k+1):=by
   unfold lH
   rw[show List.findIdx (eA (gG x)) d.2.2.2.2.1=k from hi]
  refine dM (r:=aE) (l:=lH (eA (gG x)) d.2.2.2.2.1) (by rw[eL];exact EO (r:=aE) rfl hlt c.k) _ ?_
  have hL:(lH (eA (gG x)) d.2.2.2.2.1).length≤1000:=Nat.le_trans WX c.k
  have hkL:∀ k∈lH (eA (gG x)) d.2.2.2.2.1,k.2.2.2.2.length≤140737488355328:=fun k h=>(hk k (KM h)).2
  have hV:pS d (gG x)=(((lH (eA (gG x)) d.2.2.2.2.1).any fun k=>AEX k.2.2.2.2 (gG x))||(d.2.2.2.2.2.any fun n=>decide (n.1=3)&&decide (n.2.2=gG x))):=rfl
  clear hp hn eL
  generalize lH (eA (gG x)) d.2.2.2.2.1=L at *
  refine cL (r:=aE) (fun k=>AEX k.2.2.2.2 (gG x)) (nU hL) (fun X k y hlt hy hp hn=>?_) (fun _ h2=>?_)
  ·dsimp only
   rw[show Int.toNat (k:Int)=k from rfl,iL (r:=aE) hlt,hy]
   refine cL (r:=.str) (fun z=>decide (z=gG x)) (hkL y (by rw[←hy];exact List.getElem_mem hlt)) (fun Y j z hj hz hp2 hn2=>?_) (fun _ h3=>hn h3)
   dsimp only
   refine bZ (fun h=>bZ (fun _=>bZ (fun _=>is ?_) fun h=>(pos h).elim) fun h=>(pos h).elim) fun h=>hn2 (decide_eq_false fun e=>h e.symm)
   rw[hV,(hp (hp2 (decide_eq_true h.symm)).2).2];rfl
  ·refine cL (r:=aP) (fun n=>decide (n.1=3)&&decide (n.2.2=gG x)) (nU c.r) (fun X k y hlt hy hp hn=>?_) (fun _ h4=>is (by rw[hV,h2,h4];rfl))
   dsimp only
   refine bZ (fun a1=>?_) fun a1=>hn (by rw[decide_eq_false a1];rfl)
   refine bZ (fun a2=>is ?_) fun a2=>hn (by rw[decide_eq_false a2,Bool.and_false])
   rw[d0,hV,(hp (by rw[decide_eq_true a1,decide_eq_true a2];rfl)).2,Bool.or_true]
 ·refine ⟨hd,?_⟩
  have hV:pS d (gG x)=((d.2.2.2.2.1.any fun k=>AEX k.2.2.2.2 (gG x))||(d.2.2.2.2.2.any fun n=>decide (n.1=3)&&decide (n.2.2=gG x))):=by unfold pS;rw[vD (is:=eA (gG x)) h0]
  have hL:=c.k
  have hkL:∀ k∈d.2.2.2.2.1,k.2.2.2.2.length≤140737488355328:=fun k h=>(hk k h).2
  refine cL (r:=aE) (fun k=>AEX k.2.2.2.2 (gG x)) (nU hL) (fun X k y hlt hy hp hn=>?_) (fun _ h2=>?_)
  ·dsimp only
   rw[show Int.toNat (k:Int)=k from rfl,iL (r:=aE) hlt,hy]
   refine cL (r:=.str) (fun z=>decide (z=gG x)) (hkL y (by rw[←hy];exact List.getElem_mem hlt)) (fun Y j z hj hz hp2 hn2=>?_) (fun _ h3=>hn h3)
   dsimp only
   refine bZ (fun h=>bZ (fun _=>bZ (fun _=>is ?_) fun h=>(pos h).elim) fun h=>(pos h).elim) fun h=>hn2 (decide_eq_false fun e=>h e.symm)
   rw[hV,(hp (hp2 (decide_eq_true h.symm)).2).2];rfl
  ·refine cL (r:=aP) (fun n=>decide (n.1=3)&&decide (n.2.2=gG x)) (nU c.r) (fun X k y hlt hy hp hn=>?_) (fun _ h4=>is (by rw[hV,h2,h4];rfl))
   dsimp only
   refine bZ (fun a1=>?_) fun a1=>hn (by rw[decide_eq_false a1];rfl)
   refine bZ (fun a2=>is ?_) fun a2=>hn (by rw[decide_eq_false a2,Bool.and_false])
   rw[d0,hV,(hp (by rw[decide_eq_true a1,decide_eq_true a2];rfl)).2,Bool.or_true]
def rN (lt gt:Bool):Int:=match lt,gt with
 | true,_=>-1
 | false,true=>1
 | false,false=>0
def IF (x:Int×Int):Option T:=some (T.v (Value.int .i64 (rN (decide (x.1<x.2)) (decide (x.2<x.1)))))
def IG (x:ByteArray×ByteArray):Option T:=some (T.v (Value.int .i64 (rN (cM x.1 x.2) (cM x.2 x.1))))
def orE:List Int→Int
 | []=>0
 | a::l=>if a=0 then orE l else a
def AGV (l:List Int):Option T:=some (T.v (Value.int .i64 (orE l)))
noncomputable def A6P:Env:=Env.of []
def A63:FuncId→Hint:=fun _=>aX
theorem AQN:aQ Tryz.prog A6P:=.nil _
def BFQ:T:=T.v (.int .i64 (-1))
def BFU:T:=T.v (.int .i64 1)
def ACD(a0:Int)(a1:Int)(R:T→Prop):Prop:=aD (!decide (a0=a0)) (aD (!decide (a1=a1)) (R BFG) (R BFQ)) (aD (!decide (a1=a1)) (R BFU) (aD (decide (a0<a1)) (R BFQ) (aD (decide (a1<a0)) (R BFU) (R BFG))))
abbrev AF3:Sh:=[(false,(Sy.int IntKind.i64)),(false,(Sy.int IntKind.i64))]
noncomputable def LJ:List T→Option T:=gS AF3 IF
theorem AM3 {a0 a1}:LJ [T.v (.int .i64 a0),T.v (.int .i64 a1)]=IF (a0,a1):=bC (s:=AF3) rfl (a0,a1) rfl
theorem A4B:yL Tryz.prog 282 LJ IF (b9 AF3) ACD:=jZ (a1:=(false,(Sy.int IntKind.i64))) (a2:=(false,(Sy.int IntKind.i64))) (sp:=IF) (F:=ACD) (Hs:=A63) (f:=282) (k:=8) AQN aR aU (aL rfl) ⟨_,_,Tryz.func282,rfl⟩ rfl fun _ _ _=>by kernel_rfl
theorem A3A:aN Tryz.prog 282 LJ:=A4B fun a b r h hb=>by
 cases h
 unfold ACD BFU BFQ BFG
 refine lI (fun h=>absurd rfl h) fun _=>lI (fun h=>absurd rfl h) fun _=>?_
 refine bZ (fun h=>by unfold rN;rw[decide_eq_true h]) fun h=>?_
 refine bZ (fun h2=>by unfold rN;rw[decide_eq_false h,decide_eq_true h2]) fun h2=>by unfold rN;rw[decide_eq_false h,decide_eq_false h2]
noncomputable def A6Q:Env:=Env.of []
def A64:FuncId→Hint:=fun _=>aX
theorem AQO:aQ Tryz.prog A6Q:=.nil _
def ACE(a0:ByteArray)(a1:ByteArray)(R:T→Prop):Prop:=aD (!decide (a0=a0)) (aD (!decide (a1=a1)) (R BFG) (R BFQ)) (aD (!decide (a1=a1)) (R BFU) (aD (cM a0 a1) (R BFQ) (aD (!(cM a0 a1||decide (a0=a1))) (R BFU) (R BFG))))
abbrev AF4:Sh:=[(false,Sy.str),(false,Sy.str)]
noncomputable def EX:List T→Option T:=gS AF4 IG
theorem PJ {a0 a1}:EX [T.v (.string a0),T.v (.string a1)]=IG (a0,a1):=bC (s:=AF4) rfl (a0,a1) rfl
theorem A4C:yL Tryz.prog 283 EX IG (b9 AF4) ACE:=jZ (a1:=(false,Sy.str)) (a2:=(false,Sy.str)) (sp:=IG) (F:=ACE) (Hs:=A64) (f:=283) (k:=8) AQO aR aU (aL rfl) ⟨_,_,Tryz.func283,rfl⟩ rfl fun _ _ _=>by kernel_rfl
theorem A3B:aN Tryz.prog 283 EX:=A4C fun a b r h hb=>by
 cases h
 unfold ACE BFU BFQ BFG
 refine lI (fun h=>absurd rfl h) fun _=>lI (fun h=>absurd rfl h) fun _=>?_
 rw[oW]
 refine E5 (fun h=>by unfold rN;rw[h]) fun h=>?_
 refine E5 (fun h2=>by unfold rN;rw[h,h2]) fun h2=>by unfold rN;rw[h,h2]
def GU (a0:List Int):List T:=[T.sl true (List.map (Sy.int .i64).enc a0)]
noncomputable def APZ:Env:=Env.of []
def A5K:FuncId→Hint:=bV 281 [(3,.inv [.val 8 false (.int .i64)])] (fun _=>aX)
theorem A1B:aQ Tryz.prog APZ:=.nil _
def ARZ(a0:List Int)(R:T→Prop):Prop:=a7 (Int×PUnit) (fun X0 s1=>aD (decide (s1.1<(↑(List.map BFJ.enc a0).length:Int))) (aS BFJ (List.map BFJ.enc a0) s1.1 fun (y2:Int)=>aD (!decide (y2=0)) (R (BGT y2)) (BF1 X0 s1)) (R BFG)) (0,())
theorem AR0 ( a0 R):dH bR Tryz.prog APZ A5K 8 281 (GU a0) R=ARZ a0 R:=by kernel_rfl
theorem AJS (x y:List Int) (h:GU x=GU y):x=y:=by
 simp only[GU,List.cons.injEq,T.sl.injEq,true_and,and_true] at h
 exact map_inj (Sy.cY (.int .i64)) h
noncomputable def YM:List T→Option (T):=gA (fun (x:List Int)=>GU x) AGV
theorem AV3 (a0:List Int):YM (GU a0)=AGV a0:=dS (A:=(fun (x:List Int)=>GU x)) AJS a0
theorem BAH (h:∀ (a0:List Int) (r:T),AGV a0=some r→(∀ t∈GU a0,Bd t)→ARZ a0 (fun y=>y=r)):aN Tryz.prog 281 YM :=
 b7 (E:=APZ) (Hs:=A5K) A1B aR aU (aL rfl) 8 ⟨_,_,Tryz.func281,rfl⟩ fun x r h1 h2=>by
  rw[AR0]
  exact h x r h1 h2
theorem A8L:aN Tryz.prog 281 YM:=BAH fun l r h hb=>by
 have hl:l.length≤2 ^ 47:=by
  have:=((A45 _ _).1 (hb _ List.mem_cons_self)).1
  simpa using this
 cases h
 have is:∀ {n:Int},orE l=n→T.v (.int .i64 n)=T.v (.int .i64 (orE l)):=fun h=>by rw[h]
 unfold ARZ BF1 BGT BFJ BFG
 refine bK l.length (fun k s=>s=((k:Int),())∧orE (l.drop k)=orE l) ⟨rfl,rfl⟩ ?_
 rintro X k s hk ⟨rfl,he⟩ hX
 dsimp only
 refine bZ (fun hlt=>?_) fun hge=>?_
 ·rw[List.length_map] at hlt
  have hlt:k<l.length:=by omega
  rw[bD (r:=.int .i64) hlt]
  rw[List.drop_eq_getElem_cons hlt,orE] at he
  refine lI (fun h=>is ?_) fun h=>hX _ hlt ⟨?_,?_⟩
  ·rw[if_neg h] at he;exact he.symm
  ·rw[show IntKind.i64.wrap ((k:Int)+1)=((k+1:Nat):Int) by rw[bB]<;>omega]
  ·rw[if_pos h] at he;exact he
 ·rw[List.length_map] at hge
  rw[List.drop_eq_nil_of_le (by omega)] at he
  exact is he.symm
def x7 (x:b8×b8):Option T:=some (T.v (.bool (EJ x.1 x.2)))
noncomputable def APY:Env:=Env.of [(282,.pure LJ),(283,.pure EX),(281,.pure YM)]
def ASX:FuncId→Hint:=fun _=>aX
theorem ABS:aQ Tryz.prog APY:=.cons A3A (.cons A3B (.cons A8L (.nil _)))
def JK(a0:b8)(a1:b8)(R:T→Prop):Prop:=aI BFD (LJ [T.v (.int .i64 a0.1),T.v (.int .i64 a1.1)]) fun (y0:Int)=>aI BFD (EX [T.v (.string a0.2.1),T.v (.string a1.2.1)]) fun (y1:Int)=>aI BFD (EX [T.v (.string a0.2.2),T.v (.string a1.2.2)]) fun (y2:Int)=>aI BFD (YM [T.sl true [[T.v (.int .i64 y0)],[T.v (.int .i64 y1)], [T.v (.int .i64 y2)]]]) fun (y3:Int)=>R (T.v (.bool (decide (0<y3))))
abbrev MU:Sh:=[(true,aP),(true,aP)]
noncomputable def pB:List T→Option T:=gS MU x7
theorem YL {a0 a1}:pB [aF true aP a0,aF true aP a1]=x7 (a0,a1):=bC (s:=MU) rfl (a0,a1) rfl
theorem AOA:yL Tryz.prog 280 pB x7 (b9 MU) JK:=jZ (a1:=(true,aP)) (a2:=(true,aP)) (sp:=x7) (F:=JK) (Hs:=ASX) (f:=280) (k:=8) ABS aR aU (aL rfl) ⟨_,_,Tryz.func280,rfl⟩ rfl fun _ _ _=>by kernel_rfl
theorem PA:aN Tryz.prog 280 pB:=AOA fun a b r h hb=>by
 cases h
 unfold JK BFD
 refine aG (s:=[(false,.int .i64)]) (AM3 ..) ?_
 refine aG (s:=[(false,.int .i64)]) (PJ ..) ?_
 refine aG (s:=[(false,.int .i64)]) (PJ ..) ?_
 refine aG (s:=[(false,.int .i64)]) (y:=orE [rN (decide (a.1<b.1)) (decide (b.1<a.1)),rN (cM a.2.1 b.2.1) (cM b.2.1 a.2.1),rN (cM a.2.2 b.2.2) (cM b.2.2 a.2.2)]) (AV3 [rN (decide (a.1<b.1)) (decide (b.1<a.1)),rN (cM a.2.1 b.2.1) (cM b.2.1 a.2.1),rN (cM a.2.2 b.2.2) (cM b.2.2 a.2.2)]) ?_
 refine iI ?_
 unfold EJ ltN
 have tot:∀ {s t:ByteArray},cM s t=true→cM t s=false∧decide (t=s)=false:=fun {s t} h=>by
  refine ⟨?_,decide_eq_false fun e=>?_⟩
  ·rw[Bool.eq_false_iff];intro h2;have:=BBA h h2;rw[QT] at this;cases this
  ·rw[e,QT] at h;cases h
 have eqS:∀ {s t:ByteArray},cM s t=false→cM t s=false→decide (t=s)=true:=fun {s t} h1 h2=>by
  have h3:=oW s t
  rw[h1,h2] at h3
  simpa using h3
 rcases Int.lt_trichotomy a.1 b.1 with h|h|h
 ·rw[decide_eq_true h,decide_eq_false (show ¬ b.1<a.1 by omega),decide_eq_false (show ¬ b.1=a.1 by omega)]
  simp[rN,orE]
 ·rw[decide_eq_false (show ¬ a.1<b.1 by omega),decide_eq_false (show ¬ b.1<a.1 by omega),decide_eq_true h.symm]
  cases h1:cM a.2.1 b.2.1 with
  | true=>rw[(tot h1).1,(tot h1).2];simp[rN,orE]
  | false =>
   cases h2:cM b.2.1 a.2.1 with
   | true=>simp[rN,orE]
   | false =>
    rw[eqS h1 h2]
    cases h3:cM a.2.2 b.2.2 with
    | true=>rw[(tot h3).1];simp[rN,orE]
    | false=>cases h4:cM b.2.2 a.2.2<;>simp[rN,orE]
 ·rw[decide_eq_false (show ¬ a.1<b.1 by omega),decide_eq_true h]
  simp[rN,orE]
def AIT (d:aB) (x:aZ):aB:=(d.1,nT kF d.2.1 (yW x),d.2.2)
def GI (x:aB×aZ):Option T:=match pU x.1 with
 | true=>some (Sh.enc [(true,aC)] (AIT x.1 x.2))
 | false=>none
noncomputable def BBW:Env:=Env.of [(69,.dup 3 40),(307,.grow 3 rZ)]
def BCG:FuncId→Hint:=bV 303 [(2,.inv [.val 8 false (.int .i64)])] (fun _=>aX)
theorem A00:aQ Tryz.prog BBW:=aQ.cons (x:=.dup 3 40) zY (.cons AD0 (.nil _))
def BHD(a0:aB)(y4:List dC):T:=aF true aC (a0.1,y4,a0.2.2.1,a0.2.2.2.1,a0.2.2.2.2.1,a0.2.2.2.2.2)
def BHR(a1:aZ):List T:=[T.v (.string a1.2.2.2.1.1), T.v (.int .i64 a1.2.2.2.1.2.1), T.v (.string a1.2.2.2.1.2.2)]
def BGH(a0:aB)(a1:aZ)(R:T→Prop):Prop:=bN (((BF8 a0).all fun (r:List T)=>decide (r.length=3)) && decide ((BF8 a0).length*40≤140737488355328) && decide ((BF8 a0).length≤140737488355328)) (eE aV (rZ (BF8 a0) [T.v (.int .i64 (↑(BF8 a0).length:Int)), T.sl true [(BHR a1)]]) fun (y3:List dC)=>R ((BHD a0 y3)))
def ARK(a0:aB)(a1:aZ)(R:T→Prop):Prop:=a7 (Int×PUnit) (fun X0 s1=>aD (decide (s1.1<(↑(BF8 a0).length:Int))) (aS aV (BF8 a0) s1.1 fun (y2:dC)=>aD (!(cM y2.1 a1.2.2.2.1.1||decide (y2.1=a1.2.2.2.1.1))) (aD (decide (s1.1<0)) (BGH a0 a1 R) (bN (((BF8 a0).all fun (r:List T)=>decide (r.length=3)) && decide ((BF8 a0).length*40≤140737488355328) && decide ((BF8 a0).length≤140737488355328)) (eE aV (rZ (BF8 a0) [T.v (.int .i64 s1.1), T.sl true [(BHR a1)]]) fun (y4:List dC)=>R ((BHD a0 y4))))) (BF1 X0 s1)) (BGH a0 a1 R)) (0,())
abbrev AY8:Sh:=[(true,aC),(true,aM)]
noncomputable def XX:List T→Option T:=gS AY8 GI
theorem AVS {a0 a1}:XX [aF true aC a0,aF true aM a1]=GI (a0,a1):=bC (s:=AY8) rfl (a0,a1) rfl
theorem A96:yL Tryz.prog 196 XX GI (b9 AY8) ARK:=jZ (a1:=(true,aC)) (a2:=(true,aM)) (sp:=GI) (F:=ARK) (Hs:=BCG) (f:=196) (k:=8) A00 aR aU (aL rfl) ⟨_,_,Tryz.func196,rfl⟩ rfl fun _ _ _=>by kernel_rfl
theorem A77:aN Tryz.prog 196 XX:=A96 fun d x r h hb=>by
 clear hb
 have hp:pU d=true:=by
  unfold GI at h
  split at h
  ·assumption
  ·cases h
 have e:Sh.enc [(true,aC)] (AIT d x)=r:=by
  unfold GI at h
  rw[show pU (d,x).1=true from hp] at h
  exact Option.some.inj h
 subst e
 clear h
 have c:=eV hp
 have hd:=vE (r:=aV) (l:=d.2.1) (z:=3) (b:=40) rfl (dE c.n (by decide))
 unfold ARK BGH BHR BHD BF8 BF1
 refine cL (r:=aV) (fun y=>kF y (yW x)) (nU c.n) (fun X k y hk hy hp hn=>?_) (fun h _=>?_)
 ·dsimp only
  rw[oW]
  refine E5 (fun h=>?_) fun h=>hn h
  obtain ⟨hi,_⟩:=hp h
  refine bZ (fun h=>by omega) fun _=>⟨hd,?_⟩
  refine dM (r:=aV) (l:=d.2.1.take k++yW x::d.2.1.drop k) (rA (r:=aV) (x:=yW x) rfl (by omega) c.n (by decide)) _ ?_
  unfold AIT nT
  rw[hi];rfl
 ·refine ⟨hd,?_⟩
  rw[show (((List.map (aV).enc d.2.1).length:Nat):Int)=(((d.2.1).length:Nat):Int) by rw[List.length_map]]
  refine dM (r:=aV) (l:=d.2.1.take (d.2.1).length++yW x::d.2.1.drop (d.2.1).length) (rA (r:=aV) (x:=yW x) rfl (Nat.le_refl _) c.n (by decide)) _ ?_
  unfold AIT nT
  rw[h];rfl
def AIX (d:aB) (x:aZ):aB:=(d.1,d.2.1,d.2.2.1,nT kF d.2.2.2.1 (yX x),d.2.2.2.2)
def GM (x:aB×aZ):Option T:=match pU x.1 with
 | true=>some (Sh.enc [(true,aC)] (AIX x.1 x.2))
 | false=>none
noncomputable def BB0:Env:=Env.of [(70,.dup 6 72),(315,.grow 6 r5)]
def BCK:FuncId→Hint:=bV 309 [(2,.inv [.val 8 false (.int .i64)])] (fun _=>aX)
theorem A04:aQ Tryz.prog BB0:=aQ.cons (x:=.dup 6 72) z6 (.cons AD2 (.nil _))
def BGP(a1:aZ):List T:=[T.v (.string a1.2.2.2.2.2.1.1), T.v (.string a1.2.2.2.2.2.1.2.1), T.v (.string a1.2.2.2.2.2.1.2.2.1), T.v (.int .i64 a1.2.2.2.2.2.1.2.2.2.1), T.v (.int .i64 a1.2.2.2.2.2.1.2.2.2.2.1), T.v (.int .i64 a1.2.2.2.2.2.1.2.2.2.2.2)]
def BHF(a0:aB)(y4:List dJ):T:=aF true aC (a0.1,a0.2.1,a0.2.2.1,y4,a0.2.2.2.2.1,a0.2.2.2.2.2)
def BGE(a0:aB)(a1:aZ)(R:T→Prop):Prop:=bN (((BF5 a0).all fun (r:List T)=>decide (r.length=6)) && decide ((BF5 a0).length*72≤140737488355328) && decide ((BF5 a0).length≤140737488355328)) (eE aY (r5 (BF5 a0) [T.v (.int .i64 (↑(BF5 a0).length:Int)), T.sl true [(BGP a1)]]) fun (y3:List dJ)=>R ((BHF a0 y3)))
def ARO(a0:aB)(a1:aZ)(R:T→Prop):Prop:=a7 (Int×PUnit) (fun X0 s1=>aD (decide (s1.1<(↑(BF5 a0).length:Int))) (aS aY (BF5 a0) s1.1 fun (y2:dJ)=>aD (!(cM y2.1 a1.2.2.2.2.2.1.1||decide (y2.1=a1.2.2.2.2.2.1.1))) (aD (decide (s1.1<0)) (BGE a0 a1 R) (bN (((BF5 a0).all fun (r:List T)=>decide (r.length=6)) && decide ((BF5 a0).length*72≤140737488355328) && decide ((BF5 a0).length≤140737488355328)) (eE aY (r5 (BF5 a0) [T.v (.int .i64 s1.1), T.sl true [(BGP a1)]]) fun (y4:List dJ)=>R ((BHF a0 y4))))) (BF1 X0 s1)) (BGE a0 a1 R)) (0,())
abbrev AZC:Sh:=[(true,aC),(true,aM)]
noncomputable def YB:List T→Option T:=gS AZC GM
theorem AVW {a0 a1}:YB [aF true aC a0,aF true aM a1]=GM (a0,a1):=bC (s:=AZC) rfl (a0,a1) rfl
theorem BAA:yL Tryz.prog 244 YB GM (b9 AZC) ARO:=jZ (a1:=(true,aC)) (a2:=(true,aM)) (sp:=GM) (F:=ARO) (Hs:=BCK) (f:=244) (k:=8) A04 aR aU (aL rfl) ⟨_,_,Tryz.func244,rfl⟩ rfl fun _ _ _=>by kernel_rfl
theorem A8B:aN Tryz.prog 244 YB:=BAA fun d x r h hb=>by
 clear hb
 have hp:pU d=true:=by
  unfold GM at h
  split at h
  ·assumption
  ·cases h
 have e:Sh.enc [(true,aC)] (AIX d x)=r:=by
  unfold GM at h
  rw[show pU (d,x).1=true from hp] at h
  exact Option.some.inj h
 subst e
 clear h
 have c:=eV hp
 have hd:=vE (r:=aY) (l:=d.2.2.2.1) (z:=6) (b:=72) rfl (dE c.s (by decide))
 unfold ARO BGE BHF BGP BF5 BF1
 refine cL (r:=aY) (fun y=>kF y (yX x)) (nU c.s) (fun X k y hk hy hp hn=>?_) (fun h _=>?_)
 ·dsimp only
  rw[oW]
  refine E5 (fun h=>?_) fun h=>hn h
  obtain ⟨hi,_⟩:=hp h
  refine bZ (fun h=>by omega) fun _=>⟨hd,?_⟩
  refine dM (r:=aY) (l:=d.2.2.2.1.take k++yX x::d.2.2.2.1.drop k) (rA (r:=aY) (x:=yX x) rfl (by omega) c.s (by decide)) _ ?_
  unfold AIX nT
  rw[hi];rfl
 ·refine ⟨hd,?_⟩
  rw[show (((List.map (aY).enc d.2.2.2.1).length:Nat):Int)=(((d.2.2.2.1).length:Nat):Int) by rw[List.length_map]]
  refine dM (r:=aY) (l:=d.2.2.2.1.take (d.2.2.2.1).length++yX x::d.2.2.2.1.drop (d.2.2.2.1).length) (rA (r:=aY) (x:=yX x) rfl (Nat.le_refl _) c.s (by decide)) _ ?_
  unfold AIX nT
  rw[h];rfl
def AIU (d:aB) (x:aZ):aB:=(d.1,lH (eA (gG x)) d.2.1,d.2.2)
def GJ (x:aB×aZ):Option T:=match pU x.1 with
 | true=>some (Sh.enc [(true,aC)] (AIU x.1 x.2))
 | false=>none
noncomputable def BBX:Env:=Env.of [(69,.dup 3 40),(308,.grow 3 EZ)]
def BCH:FuncId→Hint:=bV 303 [(2,.inv [.val 8 false (.int .i64)])] (fun _=>aX)
theorem A01:aQ Tryz.prog BBX:=aQ.cons (x:=.dup 3 40) zY (.cons ADX (.nil _))
def BGZ(a0:aB)(R:T→Prop):Prop:=bN (((BF8 a0).all fun (r:List T)=>decide (r.length=3)) && decide ((BF8 a0).length*40≤140737488355328) && decide ((BF8 a0).length≤140737488355328)) (R (aF true aC a0))
def ARL(a0:aB)(a1:aZ)(R:T→Prop):Prop:=a7 (Int×PUnit) (fun X0 s1=>aD (decide (s1.1<(↑(BF8 a0).length:Int))) (aS aV (BF8 a0) s1.1 fun (y2:dC)=>aD (decide (y2.1=a1.2.1)) (aD (decide (s1.1<0)) (BGZ a0 R) (bN (((BF8 a0).all fun (r:List T)=>decide (r.length=3)) && decide ((BF8 a0).length*40≤140737488355328) && decide ((BF8 a0).length≤140737488355328)) (eE aV (EZ (BF8 a0) (BGN s1)) fun (y3:List dC)=>R ((BHD a0 y3))))) (BF1 X0 s1)) (BGZ a0 R)) (0,())
abbrev AY9:Sh:=[(true,aC),(true,aM)]
noncomputable def XY:List T→Option T:=gS AY9 GJ
theorem AVT {a0 a1}:XY [aF true aC a0,aF true aM a1]=GJ (a0,a1):=bC (s:=AY9) rfl (a0,a1) rfl
theorem A97:yL Tryz.prog 203 XY GJ (b9 AY9) ARL:=jZ (a1:=(true,aC)) (a2:=(true,aM)) (sp:=GJ) (F:=ARL) (Hs:=BCH) (f:=203) (k:=8) A01 aR aU (aL rfl) ⟨_,_,Tryz.func203,rfl⟩ rfl fun _ _ _=>by kernel_rfl
theorem A78:aN Tryz.prog 203 XY:=A97 fun d x r h hb=>by
 clear hb
 have hp:pU d=true:=by
  unfold GJ at h
  split at h
  ·assumption
  ·cases h
 have e:Sh.enc [(true,aC)] (AIU d x)=r:=by
  unfold GJ at h
  rw[show pU (d,x).1=true from hp] at h
  exact Option.some.inj h
 subst e
 clear h
 have c:=eV hp
 have hd:=vE (r:=aV) (l:=d.2.1) (z:=3) (b:=40) rfl (dE c.n (by decide))
 unfold ARL BGZ BGN BHD BF8 BF1
 refine cL (r:=aV) (fun y=>eA (gG x) y) (nU c.n) (fun X k y hk hy hp hn=>?_) (fun h _=>?_)
 ·dsimp only
  refine bZ (fun h=>?_) fun h=>hn (decide_eq_false h)
  obtain ⟨hi,_⟩:=hp (decide_eq_true h)
  refine bZ (fun h=>by omega) fun _=>⟨hd,?_⟩
  refine dM (r:=aV) (l:=d.2.1.take k++d.2.1.drop (k+1)) (EO (r:=aV) rfl hk c.n) _ ?_
  unfold AIU lH
  rw[show List.findIdx (eA (gG x)) d.2.1=k from hi];rfl
 ·refine ⟨hd,?_⟩
  unfold AIU
  rw[vD (is:=eA (gG x)) h];rfl
def AIW (d:aB) (x:aZ):aB:=(d.1,d.2.1,lH (eA (gG x)) d.2.2.1,d.2.2.2)
def GL (x:aB×aZ):Option T:=match pU x.1 with
 | true=>some (Sh.enc [(true,aC)] (AIW x.1 x.2))
 | false=>none
noncomputable def BBZ:Env:=Env.of [(158,.dup 18 208),(313,.grow 18 E0)]
def BCJ:FuncId→Hint:=bV 231 [(2,.inv [.val 8 false (.int .i64)])] (fun _=>aX)
theorem A03:aQ Tryz.prog BBZ:=aQ.cons (x:=.dup 18 208) zZ (.cons ADY (.nil _))
def BHE(a0:aB)(y3:List a8):T:=aF true aC (a0.1,a0.2.1,y3,a0.2.2.2.1,a0.2.2.2.2.1,a0.2.2.2.2.2)
def BGY(a0:aB)(R:T→Prop):Prop:=bN (((BF2 a0).all fun (r:List T)=>decide (r.length=18)) && decide ((BF2 a0).length*208≤140737488355328) && decide ((BF2 a0).length≤140737488355328)) (R (aF true aC a0))
def ARN(a0:aB)(a1:aZ)(R:T→Prop):Prop:=a7 (Int×PUnit) (fun X0 s1=>aD (decide (s1.1<(↑(BF2 a0).length:Int))) (aS aK (BF2 a0) s1.1 fun (y2:a8)=>aD (decide (y2.1=a1.2.1)) (aD (decide (s1.1<0)) (BGY a0 R) (bN (((BF2 a0).all fun (r:List T)=>decide (r.length=18)) && decide ((BF2 a0).length*208≤140737488355328) && decide ((BF2 a0).length≤140737488355328)) (eE aK (E0 (BF2 a0) (BGN s1)) fun (y3:List a8)=>R ((BHE a0 y3))))) (BF1 X0 s1)) (BGY a0 R)) (0,())
abbrev AZB:Sh:=[(true,aC),(true,aM)]
noncomputable def YA:List T→Option T:=gS AZB GL
theorem AVV {a0 a1}:YA [aF true aC a0,aF true aM a1]=GL (a0,a1):=bC (s:=AZB) rfl (a0,a1) rfl
theorem A99:yL Tryz.prog 222 YA GL (b9 AZB) ARN:=jZ (a1:=(true,aC)) (a2:=(true,aM)) (sp:=GL) (F:=ARN) (Hs:=BCJ) (f:=222) (k:=8) A03 aR aU (aL rfl) ⟨_,_,Tryz.func222,rfl⟩ rfl fun _ _ _=>by kernel_rfl
theorem A8A:aN Tryz.prog 222 YA:=A99 fun d x r h hb=>by
 clear hb
 have hp:pU d=true:=by
  unfold GL at h
  split at h
  ·assumption
  ·cases h
 have e:Sh.enc [(true,aC)] (AIW d x)=r:=by
  unfold GL at h
  rw[show pU (d,x).1=true from hp] at h
  exact Option.some.inj h
 subst e
 clear h
 have c:=eV hp
 have hd:=vE (r:=aK) (l:=d.2.2.1) (z:=18) (b:=208) rfl (dE c.p (by decide))
 unfold ARN BGY BGN BHE BF2 BF1
 refine cL (r:=aK) (fun y=>eA (gG x) y) (nU c.p) (fun X k y hk hy hp hn=>?_) (fun h _=>?_)
 ·dsimp only
  refine bZ (fun h=>?_) fun h=>hn (decide_eq_false h)
  obtain ⟨hi,_⟩:=hp (decide_eq_true h)
  refine bZ (fun h=>by omega) fun _=>⟨hd,?_⟩
  refine dM (r:=aK) (l:=d.2.2.1.take k++d.2.2.1.drop (k+1)) (EO (r:=aK) rfl hk c.p) _ ?_
  unfold AIW lH
  rw[show List.findIdx (eA (gG x)) d.2.2.1=k from hi];rfl
 ·refine ⟨hd,?_⟩
  unfold AIW
  rw[vD (is:=eA (gG x)) h];rfl
def AIY (d:aB) (x:aZ):aB:=(d.1,d.2.1,d.2.2.1,lH (eA (gG x)) d.2.2.2.1,d.2.2.2.2)
def GN (x:aB×aZ):Option T:=match pU x.1 with
 | true=>some (Sh.enc [(true,aC)] (AIY x.1 x.2))
 | false=>none
noncomputable def BB1:Env:=Env.of [(70,.dup 6 72),(316,.grow 6 E1)]
def BCL:FuncId→Hint:=bV 309 [(2,.inv [.val 8 false (.int .i64)])] (fun _=>aX)
theorem A05:aQ Tryz.prog BB1:=aQ.cons (x:=.dup 6 72) z6 (.cons ADZ (.nil _))
def BG0(a0:aB)(R:T→Prop):Prop:=bN (((BF5 a0).all fun (r:List T)=>decide (r.length=6)) && decide ((BF5 a0).length*72≤140737488355328) && decide ((BF5 a0).length≤140737488355328)) (R (aF true aC a0))
def ARP(a0:aB)(a1:aZ)(R:T→Prop):Prop:=a7 (Int×PUnit) (fun X0 s1=>aD (decide (s1.1<(↑(BF5 a0).length:Int))) (aS aY (BF5 a0) s1.1 fun (y2:dJ)=>aD (decide (y2.1=a1.2.1)) (aD (decide (s1.1<0)) (BG0 a0 R) (bN (((BF5 a0).all fun (r:List T)=>decide (r.length=6)) && decide ((BF5 a0).length*72≤140737488355328) && decide ((BF5 a0).length≤140737488355328)) (eE aY (E1 (BF5 a0) (BGN s1)) fun (y3:List dJ)=>R ((BHF a0 y3))))) (BF1 X0 s1)) (BG0 a0 R)) (0,())
abbrev AZD:Sh:=[(true,aC),(true,aM)]
noncomputable def YC:List T→Option T:=gS AZD GN
theorem AVX {a0 a1}:YC [aF true aC a0,aF true aM a1]=GN (a0,a1):=bC (s:=AZD) rfl (a0,a1) rfl
theorem BAB:yL Tryz.prog 251 YC GN (b9 AZD) ARP:=jZ (a1:=(true,aC)) (a2:=(true,aM)) (sp:=GN) (F:=ARP) (Hs:=BCL) (f:=251) (k:=8) A05 aR aU (aL rfl) ⟨_,_,Tryz.func251,rfl⟩ rfl fun _ _ _=>by kernel_rfl
theorem A8C:aN Tryz.prog 251 YC:=BAB fun d x r h hb=>by
 clear hb
 have hp:pU d=true:=by
  unfold GN at h
  split at h
  ·assumption
  ·cases h
 have e:Sh.enc [(true,aC)] (AIY d x)=r:=by
  unfold GN at h
  rw[show pU (d,x).1=true from hp] at h
  exact Option.some.inj h
 subst e
 clear h
 have c:=eV hp
 have hd:=vE (r:=aY) (l:=d.2.2.2.1) (z:=6) (b:=72) rfl (dE c.s (by decide))
 unfold ARP BG0 BGN BHF BF5 BF1
 refine cL (r:=aY) (fun y=>eA (gG x) y) (nU c.s) (fun X k y hk hy hp hn=>?_) (fun h _=>?_)
 ·dsimp only
  refine bZ (fun h=>?_) fun h=>hn (decide_eq_false h)
  obtain ⟨hi,_⟩:=hp (decide_eq_true h)
  refine bZ (fun h=>by omega) fun _=>⟨hd,?_⟩
  refine dM (r:=aY) (l:=d.2.2.2.1.take k++d.2.2.2.1.drop (k+1)) (EO (r:=aY) rfl hk c.s) _ ?_
  unfold AIY lH
  rw[show List.findIdx (eA (gG x)) d.2.2.2.1=k from hi];rfl
 ·refine ⟨hd,?_⟩
  unfold AIY
  rw[vD (is:=eA (gG x)) h];rfl
def TQ (d:aB) (x:aZ):aB:=(d.1,d.2.1,d.2.2.1,d.2.2.2.1,lH (eA (gG x)) d.2.2.2.2.1,d.2.2.2.2.2)
def xY (x:aB×aZ):Option T:=match pU x.1 with
 | true=>some (Sh.enc [(true,aC)] (TQ x.1 x.2))
 | false=>none
noncomputable def A6R:Env:=Env.of [(159,.dup 5 88),(317,.grow 5 lT)]
def A65:FuncId→Hint:=bV 304 [(2,.inv [.val 8 false (.int .i64)])] (fun _=>aX)
theorem AQP:aQ Tryz.prog A6R:=aQ.cons (x:=.dup 5 88) mT (.cons zA (.nil _))
def BG1(a0:aB)(y3:List aW):T:=aF true aC (a0.1,a0.2.1,a0.2.2.1,a0.2.2.2.1,y3,a0.2.2.2.2.2)
def ACH(a0:aB)(a1:aZ)(R:T→Prop):Prop:=a7 (Int×PUnit) (fun X0 s1=>aD (decide (s1.1<(↑(BF0 a0).length:Int))) (aS aE (BF0 a0) s1.1 fun (y2:aW)=>aD (decide (y2.1=a1.2.1)) (aD (decide (s1.1<0)) (bN (((BF0 a0).all fun (r:List T)=>decide (r.length=5)) && decide ((BF0 a0).length*88≤140737488355328) && decide ((BF0 a0).length≤140737488355328)) (R (aF true aC a0))) (bN (((BF0 a0).all fun (r:List T)=>decide (r.length=5)) && decide ((BF0 a0).length*88≤140737488355328) && decide ((BF0 a0).length≤140737488355328)) (eE aE (lT (BF0 a0) (BGN s1)) fun (y3:List aW)=>R ((BG1 a0 y3))))) (BF1 X0 s1)) (bN (((BF0 a0).all fun (r:List T)=>decide (r.length=5)) && decide ((BF0 a0).length*88≤140737488355328) && decide ((BF0 a0).length≤140737488355328)) (R (aF true aC a0)))) (0,())
abbrev AF5:Sh:=[(true,aC),(true,aM)]
noncomputable def LL:List T→Option T:=gS AF5 xY
theorem AM4 {a0 a1}:LL [aF true aC a0,aF true aM a1]=xY (a0,a1):=bC (s:=AF5) rfl (a0,a1) rfl
theorem A4E:yL Tryz.prog 272 LL xY (b9 AF5) ACH:=jZ (a1:=(true,aC)) (a2:=(true,aM)) (sp:=xY) (F:=ACH) (Hs:=A65) (f:=272) (k:=8) AQP aR aU (aL rfl) ⟨_,_,Tryz.func272,rfl⟩ rfl fun _ _ _=>by kernel_rfl
theorem A3C:aN Tryz.prog 272 LL:=A4E fun d x r h hb=>by
 clear hb
 have hp:pU d=true:=by
  unfold xY at h
  split at h
  ·assumption
  ·cases h
 have e:Sh.enc [(true,aC)] (TQ d x)=r:=by
  unfold xY at h
  rw[show pU (d,x).1=true from hp] at h
  exact Option.some.inj h
 subst e
 clear h
 have c:=eV hp
 have hd:=vE (r:=aE) (l:=d.2.2.2.2.1) (z:=5) (b:=88) rfl (dE c.k (by decide))
 unfold ACH BG1 BGN BF0 BF1
 refine cL (r:=aE) (fun y=>eA (gG x) y) (nU c.k) (fun X k y hk hy hp hn=>?_) (fun h _=>?_)
 ·dsimp only
  refine bZ (fun h=>?_) fun h=>hn (decide_eq_false h)
  obtain ⟨hi,_⟩:=hp (decide_eq_true h)
  refine bZ (fun h=>by omega) fun _=>⟨hd,?_⟩
  refine dM (r:=aE) (l:=d.2.2.2.2.1.take k++d.2.2.2.2.1.drop (k+1)) (EO (r:=aE) rfl hk c.k) _ ?_
  unfold TQ lH
  rw[show List.findIdx (eA (gG x)) d.2.2.2.2.1=k from hi];rfl
 ·refine ⟨hd,?_⟩
  unfold TQ
  rw[vD (is:=eA (gG x)) h];rfl
def AIV (d:aB) (x:aZ):aB:=(d.1,d.2.1,nT kF d.2.2.1 (cW x),d.2.2.2)
def GK (x:aB×aZ):Option T:=match pU x.1&&eK (cW x.2) with
 | true=>some (Sh.enc [(true,aC)] (AIV x.1 x.2))
 | false=>none
noncomputable def BBY:Env:=Env.of [(160,.pure gM),(158,.dup 18 208),(312,.grow 18 r4)]
def BCI:FuncId→Hint:=bV 231 [(2,.inv [.val 8 false (.int .i64)])] (fun _=>aX)
theorem A02:aQ Tryz.prog BBY:=.cons s0 (aQ.cons (x:=.dup 18 208) zZ (.cons AD1 (.nil _)))
def BGL(a0:aB)(y0:a8)(R:T→Prop):Prop:=bN (((BF2 a0).all fun (r:List T)=>decide (r.length=18)) && decide ((BF2 a0).length*208≤140737488355328) && decide ((BF2 a0).length≤140737488355328)) (eE aK (r4 (BF2 a0) [T.v (.int .i64 (↑(BF2 a0).length:Int)), T.sl true [(aK.enc y0)]]) fun (y4:List a8)=>R ((BHE a0 y4)))
def ARM(a0:aB)(a1:aZ)(R:T→Prop):Prop:=aI [(true,aK)] (gM [aF true aK a1.2.2.2.2.1]) fun (y0:a8)=>a7 (Int×PUnit) (fun X1 s2=>aD (decide (s2.1<(↑(BF2 a0).length:Int))) (aS aK (BF2 a0) s2.1 fun (y3:a8)=>aD (!(cM y3.1 y0.1||decide (y3.1=y0.1))) (aD (decide (s2.1<0)) (BGL a0 y0 R) (bN (((BF2 a0).all fun (r:List T)=>decide (r.length=18)) && decide ((BF2 a0).length*208≤140737488355328) && decide ((BF2 a0).length≤140737488355328)) (eE aK (r4 (BF2 a0) [T.v (.int .i64 s2.1), T.sl true [(aK.enc y0)]]) fun (y5:List a8)=>R ((BHE a0 y5))))) (BF1 X1 s2)) (BGL a0 y0 R)) (0,())
abbrev AZA:Sh:=[(true,aC),(true,aM)]
noncomputable def XZ:List T→Option T:=gS AZA GK
theorem AVU {a0 a1}:XZ [aF true aC a0,aF true aM a1]=GK (a0,a1):=bC (s:=AZA) rfl (a0,a1) rfl
theorem A98:yL Tryz.prog 215 XZ GK (b9 AZA) ARM:=jZ (a1:=(true,aC)) (a2:=(true,aM)) (sp:=GK) (F:=ARM) (Hs:=BCI) (f:=215) (k:=8) A02 aR aU (aL rfl) ⟨_,_,Tryz.func215,rfl⟩ rfl fun _ _ _=>by kernel_rfl
theorem A79:aN Tryz.prog 215 XZ:=A98 fun d x r h hb=>by
 clear hb
 have hq:(pU d&&eK (cW x))=true:=by
  unfold GK at h
  split at h
  ·assumption
  ·cases h
 have e:Sh.enc [(true,aC)] (AIV d x)=r:=by
  unfold GK at h
  rw[show (pU (d,x).1&&eK (cW (d,x).2))=true from hq] at h
  exact Option.some.inj h
 subst e
 clear h
 rw[Bool.and_eq_true] at hq
 obtain ⟨hp,ho⟩:=hq
 have c:=eV hp
 have hd:=vE (r:=aK) (l:=d.2.2.1) (z:=18) (b:=208) rfl (dE c.p (by decide))
 unfold ARM BGL BHE BF2 BF1
 refine aG (s:=[(true,aK)]) (y:=cW x) ((tD ..).trans (by unfold iE;rw[ho])) ?_
 refine cL (r:=aK) (fun y=>kF y (cW x)) (nU c.p) (fun X k y hk hy hp hn=>?_) (fun h _=>?_)
 ·dsimp only
  rw[oW]
  refine E5 (fun h=>?_) fun h=>hn h
  obtain ⟨hi,_⟩:=hp h
  refine bZ (fun h=>by omega) fun _=>⟨hd,?_⟩
  refine dM (r:=aK) (l:=d.2.2.1.take k++cW x::d.2.2.1.drop k) (rA (r:=aK) (x:=cW x) rfl (by omega) c.p (by decide)) _ ?_
  unfold AIV nT
  rw[hi];rfl
 ·refine ⟨hd,?_⟩
  rw[show (((List.map (aK).enc d.2.2.1).length:Nat):Int)=(((d.2.2.1).length:Nat):Int) by rw[List.length_map]]
  refine dM (r:=aK) (l:=d.2.2.1.take (d.2.2.1).length++cW x::d.2.2.1.drop (d.2.2.1).length) (rA (r:=aK) (x:=cW x) rfl (Nat.le_refl _) c.p (by decide)) _ ?_
  unfold AIV nT
  rw[h];rfl
def AIZ (d:aB) (x:aZ):aB:=(d.1,d.2.1,d.2.2.1,d.2.2.2.1,nT kF d.2.2.2.2.1 (gY x),d.2.2.2.2.2)
def GO (x:aB×aZ):Option T:=match pU x.1&&dY (gY x.2) with
 | true=>some (Sh.enc [(true,aC)] (AIZ x.1 x.2))
 | false=>none
noncomputable def BB2:Env:=Env.of [(161,.pure mJ),(159,.dup 5 88),(319,.grow 5 lU)]
def BCM:FuncId→Hint:=bV 304 [(2,.inv [.val 8 false (.int .i64)])] (fun _=>aX)
theorem A06:aQ Tryz.prog BB2:=.cons K4 (aQ.cons (x:=.dup 5 88) mT (.cons N7 (.nil _)))
def BGM(y0:aW):List T:=[T.v (.string y0.1),T.v (.string y0.2.1), T.sl false (BG3 y0), T.v (.int .i64 y0.2.2.2.1), T.sl false (BGR y0)]
def BHN(a0:aB)(y0:aW)(R:T→Prop):Prop:=eE aE (lU (BF0 a0) [T.v (.int .i64 (↑(BF0 a0).length:Int)), T.sl true [(BGM y0)]]) fun (y4:List aW)=>R ((BG1 a0 y4))
def ARQ(a0:aB)(a1:aZ)(R:T→Prop):Prop:=aI [(true,aE)] (mJ [aF true aE a1.2.2.2.2.2.2.1]) fun (y0:aW)=>a7 (Int×PUnit) (fun X1 s2=>aD (decide (s2.1<(↑(BF0 a0).length:Int))) (aS aE (BF0 a0) s2.1 fun (y3:aW)=>aD (!(cM y3.1 y0.1||decide (y3.1=y0.1))) (aD (decide (s2.1<0)) (bN (((BF0 a0).all fun (r:List T)=>decide (r.length=5)) && decide ((BF0 a0).length*88≤140737488355328) && decide ((BF0 a0).length≤140737488355328)) (BHN a0 y0 R)) (bN (((BF0 a0).all fun (r:List T)=>decide (r.length=5)) && decide ((BF0 a0).length*88≤140737488355328) && decide ((BF0 a0).length≤140737488355328)) (eE aE (lU (BF0 a0) [T.v (.int .i64 s2.1), T.sl true [(BGM y0)]]) fun (y5:List aW)=>R ((BG1 a0 y5))))) (BF1 X1 s2)) (bN (((BF0 a0).all fun (r:List T)=>decide (r.length=5)) && decide ((BF0 a0).length*88≤140737488355328) && decide ((BF0 a0).length≤140737488355328)) (BHN a0 y0 R))) (0,())
abbrev AZE:Sh:=[(true,aC),(true,aM)]
noncomputable def YD:List T→Option T:=gS AZE GO
theorem AVY {a0 a1}:YD [aF true aC a0,aF true aM a1]=GO (a0,a1):=bC (s:=AZE) rfl (a0,a1) rfl
theorem BAC:yL Tryz.prog 264 YD GO (b9 AZE) ARQ:=jZ (a1:=(true,aC)) (a2:=(true,aM)) (sp:=GO) (F:=ARQ) (Hs:=BCM) (f:=264) (k:=8) A06 aR aU (aL rfl) ⟨_,_,Tryz.func264,rfl⟩ rfl fun _ _ _=>by kernel_rfl
theorem A8D:aN Tryz.prog 264 YD:=BAC fun d x r h hb=>by
 clear hb
 have hq:(pU d&&dY (gY x))=true:=by
  unfold GO at h
  split at h
  ·assumption
  ·cases h
 have e:Sh.enc [(true,aC)] (AIZ d x)=r:=by
  unfold GO at h
  rw[show (pU (d,x).1&&dY (gY (d,x).2))=true from hq] at h
  exact Option.some.inj h
 subst e
 clear h
 rw[Bool.and_eq_true] at hq
 obtain ⟨hp,ho⟩:=hq
 have c:=eV hp
 have hd:=vE (r:=aE) (l:=d.2.2.2.2.1) (z:=5) (b:=88) rfl (dE c.k (by decide))
 unfold ARQ BHN BG1 BGM BGR BG3 BF0 BF1
 refine aG (s:=[(true,aE)]) (y:=gY x) ((BS ..).trans (by unfold jI;rw[ho])) ?_
 refine cL (r:=aE) (fun y=>kF y (gY x)) (nU c.k) (fun X k y hk hy hp hn=>?_) (fun h _=>?_)
 ·dsimp only
  rw[oW]
  refine E5 (fun h=>?_) fun h=>hn h
  obtain ⟨hi,_⟩:=hp h
  refine bZ (fun h=>by omega) fun _=>⟨hd,?_⟩
  refine dM (r:=aE) (l:=d.2.2.2.2.1.take k++gY x::d.2.2.2.2.1.drop k) (rA (r:=aE) (x:=gY x) rfl (by omega) c.k (by decide)) _ ?_
  unfold AIZ nT
  rw[hi];rfl
 ·refine ⟨hd,?_⟩
  rw[show (((List.map (aE).enc d.2.2.2.2.1).length:Nat):Int)=(((d.2.2.2.2.1).length:Nat):Int) by rw[List.length_map]]
  refine dM (r:=aE) (l:=d.2.2.2.2.1.take (d.2.2.2.2.1).length++gY x::d.2.2.2.2.1.drop (d.2.2.2.2.1).length) (rA (r:=aE) (x:=gY x) rfl (Nat.le_refl _) c.k (by decide)) _ ?_
  unfold AIZ nT
  rw[h];rfl
end Go.Pv
namespace Go.Pv
open Go Go.Proofs
noncomputable def LK:List T→Option T:=dU
theorem AHY:J1 Tryz.prog 120 2 LK :=
 AYF (E:=ABB) (Hs:=ACW) VA aR aU (aL rfl) 8 ⟨_,_,Tryz.func120,rfl⟩ (s:=ML) rfl fun d r h hb=>by
  have hp:pU d=true:=by
   unfold qT at h
   split at h
   ·assumption
   ·cases h
  have e:Sh.enc [(true,aC)] d=r:=by
   unfold qT at h
   rw[hp] at h
   exact Option.some.inj h
  subst e
  rw[show UU bR Tryz.prog ABB ACW 8 2 120 (Sh.iZ ML d) (fun y=>y=Sh.enc [(true,aC)] d)=JA d (fun y=>y=Sh.enc [(true,aC)] d) from by kernel_rfl]
  exact AT3 hp
def UM (x:aZ):Option T:=some (Sh.enc [(true,aM)] ((x.1,b6,b6,dW,cW x,dX,noPack,iP):aZ))
noncomputable def BB7:Env:=Env.of []
def BCR:FuncId→Hint:=fun _=>aX
theorem A1G:aQ Tryz.prog BB7:=.nil _
def AR5(a0:aZ)(R:T→Prop):Prop:=R (T.agg [T.v (.int .i64 a0.1),T.v (.string {data:=#[]}), T.v (.string {data:=#[]}),T.v (.string {data:=#[]}), T.v (.int .i64 0),T.v (.string {data:=#[]}), T.v (.string a0.2.2.2.2.1.1), T.v (.int .i64 a0.2.2.2.2.1.2.1), T.v (.int .i64 a0.2.2.2.2.1.2.2.1), T.v (.string a0.2.2.2.2.1.2.2.2.1), T.v (.string a0.2.2.2.2.1.2.2.2.2.1), T.v (.int .i64 a0.2.2.2.2.1.2.2.2.2.2.1), T.sl false (List.map aA.enc a0.2.2.2.2.1.2.2.2.2.2.2.1.1), T.sl false (List.map aA.li.enc a0.2.2.2.2.1.2.2.2.2.2.2.1.2), T.v (.string a0.2.2.2.2.1.2.2.2.2.2.2.2.1), T.v (.int .i64 a0.2.2.2.2.1.2.2.2.2.2.2.2.2.1), T.v (.int .i64 a0.2.2.2.2.1.2.2.2.2.2.2.2.2.2.1), T.v (.int .i64 a0.2.2.2.2.1.2.2.2.2.2.2.2.2.2.2.1.1), T.v (.int .i64 a0.2.2.2.2.1.2.2.2.2.2.2.2.2.2.2.1.2.1), T.v (.int .i64 a0.2.2.2.2.1.2.2.2.2.2.2.2.2.2.2.1.2.2), T.v (.int .i64 a0.2.2.2.2.1.2.2.2.2.2.2.2.2.2.2.2.1.1), T.v (.int .i64 a0.2.2.2.2.1.2.2.2.2.2.2.2.2.2.2.2.1.2.1), T.v (.int .i64 a0.2.2.2.2.1.2.2.2.2.2.2.2.2.2.2.2.1.2.2), T.v (.int .i64 a0.2.2.2.2.1.2.2.2.2.2.2.2.2.2.2.2.2), T.v (.string {data:=#[]}),T.v (.string {data:=#[]}), T.v (.string {data:=#[]}),T.v (.int .i64 0), T.v (.int .i64 0),T.v (.int .i64 0), T.v (.string {data:=#[]}),T.v (.string {data:=#[]}),T.sl false [], T.v (.int .i64 0),T.sl false [],T.v (.int .i64 0), T.v (.string {data:=#[]}),T.v (.string {data:=#[]})])
abbrev AZJ:Sh:=[(true,aM)]
noncomputable def PU:List T→Option T:=gS AZJ UM
theorem AV8 {a0}:PU [aF true aM a0]=UM (a0):=bC (s:=AZJ) rfl (a0) rfl
theorem BAM:rM Tryz.prog 227 PU UM (b9 AZJ) AR5:=gQ (a1:=(true,aM)) (sp:=UM) (F:=AR5) (Hs:=BCR) (f:=227) (k:=8) A1G aR aU (aL rfl) ⟨_,_,Tryz.func227,rfl⟩ rfl fun _ _=>by kernel_rfl
theorem A8Q:aN Tryz.prog 227 PU:=BAM fun x r h hb=>by
 cases h
 unfold AR5
 rfl
def UN (x:aZ):Option T:=some (Sh.enc [(true,aM)] ((x.1,gG x,eTo x,dW,dB,dX,noPack,iP):aZ))
noncomputable def BB8:Env:=Env.of []
def BCS:FuncId→Hint:=fun _=>aX
theorem A1H:aQ Tryz.prog BB8:=.nil _
def AR6(a0:aZ)(R:T→Prop):Prop:=R (T.agg [T.v (.int .i64 a0.1),T.v (.string a0.2.1), T.v (.string a0.2.2.1),T.v (.string {data:=#[]}), T.v (.int .i64 0),T.v (.string {data:=#[]}), T.v (.string {data:=#[]}),T.v (.int .i64 0), T.v (.int .i64 0),T.v (.string {data:=#[]}), T.v (.string {data:=#[]}),T.v (.int .i64 0),T.sl false [], T.sl false [],T.v (.string {data:=#[]}),T.v (.int .i64 0), T.v (.int .i64 0),T.v (.int .i64 0), T.v (.int .i64 0),T.v (.int .i64 0), T.v (.int .i64 0),T.v (.int .i64 0), T.v (.int .i64 0),T.v (.int .i64 0), T.v (.string {data:=#[]}),T.v (.string {data:=#[]}), T.v (.string {data:=#[]}),T.v (.int .i64 0), T.v (.int .i64 0),T.v (.int .i64 0), T.v (.string {data:=#[]}),T.v (.string {data:=#[]}),T.sl false [], T.v (.int .i64 0),T.sl false [],T.v (.int .i64 0), T.v (.string {data:=#[]}),T.v (.string {data:=#[]})])
abbrev AZK:Sh:=[(true,aM)]
noncomputable def PV:List T→Option T:=gS AZK UN
theorem AV9 {a0}:PV [aF true aM a0]=UN (a0):=bC (s:=AZK) rfl (a0) rfl
theorem BAN:rM Tryz.prog 235 PV UN (b9 AZK) AR6:=gQ (a1:=(true,aM)) (sp:=UN) (F:=AR6) (Hs:=BCS) (f:=235) (k:=8) A1H aR aU (aL rfl) ⟨_,_,Tryz.func235,rfl⟩ rfl fun _ _=>by kernel_rfl
theorem A8R:aN Tryz.prog 235 PV:=BAN fun x r h hb=>by
 cases h
 unfold AR6
 rfl
end Go.Pv
namespace Go.Pv
open Go Go.Proofs
def okX (d:aB) (x:aZ):Bool:=pU d&&(eK (cW x)&&dY (gY x))
theorem C5 {d:aB} {x:aZ} (h:okX d x=true):pU d=true∧eK (cW x)=true∧dY (gY x)=true:=by
 unfold okX at h
 rw[Bool.and_eq_true,Bool.and_eq_true] at h
 exact h
theorem kG (k:Int) (x y:mY) (h:([aF true aC x.1,aF true aJ x.2.1,aF true aM (k,x.2.2)]:List T)=[aF true aC y.1,aF true aJ y.2.1,aF true aM (k,y.2.2)]):x=y:=by
 simp only[List.cons.injEq,and_true] at h
 obtain ⟨h1,h2,h3⟩:=h
 exact Prod.ext (lQ (r:=aC) rfl h1) (Prod.ext (lQ (r:=aJ) rfl h2) (Prod.mk.inj (lQ (r:=aM) rfl h3)).2)
theorem fQ {c:Bool} {a:T}:c=true→(match c with|true=>some a|false=>none)=some a:=fun h=>by rw[h]
theorem oS {α:Type} (no:α) (o:Option α):(found no o).2=o.isSome:=by cases o<;>rfl
theorem BC {d:aB} {m:aH} {x:aZ} (hk:1≤x.1∧x.1≤12) (h:w9 x (cZ x)=false):bT d m x=(kT,2):=by
 unfold bT;rw[if_neg (fun h=>h hk),if_pos (.inl h)]
theorem OV {d:aB} {m:aH} {x:aZ} (hk:1≤x.1∧x.1≤12) (h5:¬ x.1=5) (h:w9 x (cZ x)=true) (ha:lM x=true) (ht:gF d x=true):bT d m x=(kT,7):=by
 unfold bT;rw[if_neg (fun h=>h hk),if_neg (fun e=>e.elim (fun e=>by rw[h] at e;cases e) fun e=>h5 e.1),if_pos ⟨ha,ht⟩]
theorem J9 {d:aB} {m:aH} {x:aZ} (hk:1≤x.1∧x.1≤12) (h5:¬ x.1=5) (h:w9 x (cZ x)=true) (ha:lM x=false) (ht:gF d x=false):bT d m x=(kT,8):=by
 unfold bT;rw[if_neg (fun h=>h hk),if_neg (fun e=>e.elim (fun e=>by rw[h] at e;cases e) fun e=>h5 e.1),if_neg (fun e=>by rw[ha] at e;cases e.1),if_pos ⟨ha,ht⟩]
theorem ATI {d:aB} {m:aH} {x:aZ} (hk:1≤x.1∧x.1≤12) (h5:¬ x.1=5) (h:w9 x (cZ x)=true) (ha:gF d x = !lM x) (hu:pQ d x=true):bT d m x=(kT,34):=by
 unfold bT
 rw[if_neg (fun h=>h hk),if_neg (fun e=>e.elim (fun e=>by rw[h] at e;cases e) fun e=>h5 e.1),if_neg (fun e=>by rw[ha,e.1] at e;cases e.2),if_neg (fun e=>by rw[ha,e.1] at e;cases e.2),if_neg (fun e=>h5 e.1),if_pos hu]
theorem sP {d:aB} {m:aH} {x:aZ} (hk:1≤x.1∧x.1≤12) (h5:¬ x.1=5) (h:w9 x (cZ x)=true) (ha:gF d x = !lM x) (hu:pQ d x=false):bT d m x=if gK (uP d x) m=0 then (uP d x,0) else (kT,gK (uP d x) m):=by
 unfold bT
 rw[if_neg (fun h=>h hk),if_neg (fun e=>e.elim (fun e=>by rw[h] at e;cases e) fun e=>h5 e.1),if_neg (fun e=>by rw[ha,e.1] at e;cases e.2),if_neg (fun e=>by rw[ha,e.1] at e;cases e.2),if_neg (fun e=>h5 e.1),if_neg (by rw[hu];decide)]
noncomputable def AU (k:Int) (x:mY):Option T:=match okX x.1 (k,x.2.2) with
 | true=>some (Sh.enc [(true,aC),(false,.int .i64)] (bT x.1 x.2.1 (k,x.2.2)))
 | false=>none
section
variable {k : Int} {d : aB} {m : aH} {x : cX} {r : T}
theorem ATG (hre:r=Sh.enc [(true,aC),(false,.int .i64)] (bT d m (k,x))) (hk:1≤k∧k≤12) (h5:¬ k=5) (hE:w9 (k,x) (cZ (k,x))=true) (hth:gF d (k,x) = !lM (k,x)) (hus:pQ d (k,x)=false) (hc:pU d=true) {gd:List T→Option T}
  (zd:gd [aF true aC d,aF true aM (k,x)]=some (Sh.enc [(true,aC)] (uP d (k,x)))) :
  aI [(true,aC)] (dU [aF true aC d]) fun (y3:aB)=>aI [(true,aC)] (gd [aF true aC y3,aF true aM (k,x)]) fun (y4:aB)=>aI [(false,.int .i64)] (cC [aF true aC y4,aF true aJ m]) fun (y5:Int) =>
   aD (!decide (y5=0)) (T.bU [aF true aC kT,T.v (Value.int .i64 y5)]=r) (T.bU [aF true aC y4,T.v (Value.int .i64 0)]=r):=by
 subst hre
 refine aG (s:=[(true,aC)]) (y:=d) ((rT ..).trans (fQ hc)) ?_
 refine aG (s:=[(true,aC)]) (y:=uP d (k,x)) zd ?_
 refine aG (s:=[(false,.int .i64)]) (y:=gK (uP d (k,x)) m) (mI ..) ?_
 exact lI (fun h=>by rw[(sP hk h5 hE hth hus).trans (if_neg h)];rfl) fun h=>by rw[(sP hk h5 hE hth hus).trans (if_pos h)];rfl
theorem WD (h:AU k (d,m,x)=some r) (hk:1≤k∧k≤12) {g:List T→Option T} (z1:g [aF true aM (k,x)]=some (Sh.enc [(true,aM)] (cZ (k,x)))) {REST:Prop}
  (hr:pU d=true→eK (cW (k,x))=true→dY (gY (k,x))=true→r=Sh.enc [(true,aC),(false,.int .i64)] (bT d m (k,x))→w9 (k,x) (cZ (k,x))=true→REST) :
  aI [(true,aM)] (g [aF true aM (k,x)]) fun (y0:aZ)=>aI [(false,Sy.bool)] (cJ [aF true aM (k,x),aF true aM y0]) fun (y1:Bool)=>aD (!y1) (T.bU [aF true aC kT,T.v (Value.int .i64 2)]=r) REST:=by
 obtain ⟨hp,hre⟩:=rC h
 obtain ⟨hc,ho1,ho2⟩:=C5 hp
 refine aG (s:=[(true,aM)]) (y:=cZ (k,x)) z1 ?_
 refine aG (s:=HV) (y:=w9 (k,x) (cZ (k,x))) (pE ..) ?_
 exact kQ (fun h=>by rw[←hre,show bT d m (k,x)=_ from BC hk h];rfl) fun hE=>hr hc ho1 ho2 hre.symm hE
theorem R8 (h:AU k (d,m,x)=some r) (hk:1≤k∧k≤12) (h5:¬ k=5) (ha:lM (k,x)=true) (hus:pQ d (k,x)=false) {g gd:List T→Option T} (z1:g [aF true aM (k,x)]=some (Sh.enc [(true,aM)] (cZ (k,x)))) {r0:Sy} {no:r0.den} {o:Option r0.den} {gx:Option T}
  (zx:pU d=true→gx=some (Sh.enc [(true,r0),(false,.bool)] (found no o))) (ht:gF d (k,x)=o.isSome)
  (zd:pU d=true→eK (cW (k,x))=true→dY (gY (k,x))=true→gd [aF true aC d,aF true aM (k,x)]=some (Sh.enc [(true,aC)] (uP d (k,x)))) :
  aI [(true,aM)] (g [aF true aM (k,x)]) fun (y0:aZ)=>aI [(false,Sy.bool)] (cJ [aF true aM (k,x),aF true aM y0]) fun (y1:Bool)=>aD (!y1) (T.bU [aF true aC kT,T.v (Value.int .i64 2)]=r)
   (aI [(true,r0),(false,.bool)] gx fun (y2:r0.den×Bool)=>aD y2.2 (T.bU [aF true aC kT,T.v (Value.int .i64 7)]=r)
    (aI [(true,aC)] (dU [aF true aC d]) fun (y3:aB)=>aI [(true,aC)] (gd [aF true aC y3,aF true aM (k,x)]) fun (y4:aB)=>aI [(false,.int .i64)] (cC [aF true aC y4,aF true aJ m]) fun (y5:Int) =>
     aD (!decide (y5=0)) (T.bU [aF true aC kT,T.v (Value.int .i64 y5)]=r) (T.bU [aF true aC y4,T.v (Value.int .i64 0)]=r))) :=
 WD h hk z1 fun hc ho1 ho2 hre hE=>by
  refine aG (s:=[(true,r0),(false,.bool)]) (y:=found no o) (zx hc) ?_
  have ht:=ht.trans (oS no o).symm
  refine E5 (fun h=>by rw[hre,show bT d m (k,x)=_ from OV hk h5 hE ha (ht.trans h)];rfl) fun h=>?_
  exact ATG hre hk h5 hE (by rw[ha,ht,h];rfl) hus hc (zd hc ho1 ho2)
theorem R9 (h:AU k (d,m,x)=some r) (hk:1≤k∧k≤12) (h5:¬ k=5) (ha:lM (k,x)=false) {g gd gu:List T→Option T} (z1:g [aF true aM (k,x)]=some (Sh.enc [(true,aM)] (cZ (k,x)))) {r0:Sy} {no:r0.den} {o:Option r0.den} {gx:Option T}
  (zx:pU d=true→gx=some (Sh.enc [(true,r0),(false,.bool)] (found no o))) (ht:gF d (k,x)=o.isSome) (zu:pU d=true→gu [aF true aC d,aF true aM (k,x)]=some (Sh.enc HV (pQ d (k,x))))
  (zd:pU d=true→gd [aF true aC d,aF true aM (k,x)]=some (Sh.enc [(true,aC)] (uP d (k,x)))) :
  aI [(true,aM)] (g [aF true aM (k,x)]) fun (y0:aZ)=>aI [(false,Sy.bool)] (cJ [aF true aM (k,x),aF true aM y0]) fun (y1:Bool)=>aD (!y1) (T.bU [aF true aC kT,T.v (Value.int .i64 2)]=r)
   (aI [(true,r0),(false,.bool)] gx fun (y2:r0.den×Bool)=>aD (!y2.2) (T.bU [aF true aC kT,T.v (Value.int .i64 8)]=r)
    (aI [(false,Sy.bool)] (gu [aF true aC d,aF true aM (k,x)]) fun (u:Bool)=>aD u (T.bU [aF true aC kT,T.v (Value.int .i64 34)]=r)
    (aI [(true,aC)] (dU [aF true aC d]) fun (y3:aB)=>aI [(true,aC)] (gd [aF true aC y3,aF true aM (k,x)]) fun (y4:aB)=>aI [(false,.int .i64)] (cC [aF true aC y4,aF true aJ m]) fun (y5:Int) =>
     aD (!decide (y5=0)) (T.bU [aF true aC kT,T.v (Value.int .i64 y5)]=r) (T.bU [aF true aC y4,T.v (Value.int .i64 0)]=r)))) :=
 WD h hk z1 fun hc ho1 ho2 hre hE=>by
  refine aG (s:=[(true,r0),(false,.bool)]) (y:=found no o) (zx hc) ?_
  have ht:=ht.trans (oS no o).symm
  refine kQ (fun h=>by rw[hre,show bT d m (k,x)=_ from J9 hk h5 hE ha (ht.trans h)];rfl) fun h=>?_
  have hth:gF d (k,x) = !lM (k,x):=by rw[ha,ht,h];rfl
  refine aG (s:=HV) (y:=pQ d (k,x)) (zu hc) ?_
  refine E5 (fun h=>by rw[hre,show bT d m (k,x)=_ from ATI hk h5 hE hth h];rfl) fun hus=>?_
  exact ATG hre hk h5 hE hth hus hc (zd hc)
end
def IP (a0:aB) (a1:aH) (a2:cX):List T:=[aF true aC a0,aF true aJ a1,aF true aM (1,a2)]
noncomputable def APE:Env:=Env.of [(118,.pure cJ),(193,.pure YP),(195,.pure AD),(120,.pure dU),(196,.pure XX),(26,.pure cC)]
def A47:FuncId→Hint:=fun _=>aX
theorem A0R:aQ Tryz.prog APE:=.cons iJ (.cons A8M (.cons AHZ (.cons mS (.cons A77 (.cons iX (.nil _))))))
def BFC:T:=aF true aC (b6,[],[],[],[],[])
def BGW(R:T→Prop)(y10:Int):Prop:=R (T.bU [BFC, T.v (.int .i64 y10)])
def BF6(y4:aB)(a1:aH)(R:T→Prop):Prop:=aI BFD (cC [aF true aC y4,aF true aJ a1]) fun (y5:Int)=>aD (!decide (y5=0)) (BGW R y5) (R (T.bU [aF true aC y4,T.v (.int .i64 0)]))
def BGI(R:T→Prop):Prop:=R (T.bU [BFC, T.v (.int .i64 2)])
def BG9(R:T→Prop):Prop:=R (T.bU [BFC, T.v (.int .i64 7)])
def AQ2(a0:aB)(a1:aH)(a2:cX)(R:T→Prop):Prop:=aI [(true,aM)] (YP [(aF true aM (1,a2))]) fun (y0:aZ)=>aI BFF (cJ [(aF true aM (1,a2)), aF true aM y0]) fun (y1:Bool)=>aD (!y1) (BGI R) (aI [(true,aV),(false,Sy.bool)] (AD [aF true aC a0,T.v (.string a2.2.2.1.1)]) fun (y2:dC×Bool)=>aD y2.2 (BG9 R) (aI [(true,aC)] (dU [aF true aC a0]) fun (y3:aB)=>aI [(true,aC)] (XX [aF true aC y3, (aF true aM (1,a2))]) fun (y4:aB)=>BF6 y4 a1 R))
theorem AQ3 ( a0 a1 a2 R):dH bR Tryz.prog APE A47 8 83 (IP a0 a1 a2) R=AQ2 a0 a1 a2 R:=by kernel_rfl
noncomputable def AGI:mY→Option T:=AU 1
theorem AJF (x y:mY) (h:IP x.1 x.2.1 x.2.2=IP y.1 y.2.1 y.2.2):x=y:=kG 1 x y h
noncomputable def AVA:List T→Option (T):=gA (fun (x:aB×aH×cX)=>IP x.1 x.2.1 x.2.2) AGI
theorem AVB (a0:aB) (a1:aH) (a2:cX):AVA (IP a0 a1 a2)=AGI (a0,a1,a2):=dS (A:=(fun (x:aB×aH×cX)=>IP x.1 x.2.1 x.2.2)) AJF (a0,a1,a2)
theorem A9X (h:∀ (a0:aB) (a1:aH) (a2:cX) (r:T),AGI (a0,a1,a2)=some r→(∀ t∈IP a0 a1 a2,Bd t)→AQ2 a0 a1 a2 (fun y=>y=r)):aN Tryz.prog 83 AVA :=
 b7 (E:=APE) (Hs:=A47) A0R aR aU (aL rfl) 8 ⟨_,_,Tryz.func83,rfl⟩ fun x r h1 h2=>by
  rw[AQ3]
  exact h x.1 x.2.1 x.2.2 r h1 h2
theorem AUN:aN Tryz.prog 83 AVA:=A9X fun d m x r h hb=>by
 unfold AQ2 BG9 BGI BF6 BGW BFF BFD BFC
 exact R8 h (by decide) (by decide) rfl rfl ((AV4 ..).trans rfl) (no:=dW) (fun _=>PQ ..) rfl (fun hc _ _=>(AVS ..).trans (fQ hc))
def IS (a0:aB) (a1:aH) (a2:cX):List T:=[aF true aC a0,aF true aJ a1,aF true aM (3,a2)]
noncomputable def APG:Env:=Env.of [(118,.pure cJ),(213,.pure YR),(119,.pure kH),(120,.pure dU),(215,.pure XZ),(26,.pure cC)]
def A49:FuncId→Hint:=fun _=>aX
theorem A0T:aQ Tryz.prog APG:=.cons iJ (.cons A8O (.cons BN (.cons mS (.cons A79 (.cons iX (.nil _))))))
def BFN:Sh:=[(true,aK),(false,Sy.bool)]
def BHX(a0:aB)(a2:cX):List T:=[aF true aC a0,T.v (.string a2.2.2.2.1.1)]
def AQ6(a0:aB)(a1:aH)(a2:cX)(R:T→Prop):Prop:=aI [(true,aM)] (YR [(aF true aM (3,a2))]) fun (y0:aZ)=>aI BFF (cJ [(aF true aM (3,a2)), aF true aM y0]) fun (y1:Bool)=>aD (!y1) (BGI R) (aI BFN (kH (BHX a0 a2)) fun (y2:a8×Bool)=>aD y2.2 (BG9 R) (aI [(true,aC)] (dU [aF true aC a0]) fun (y3:aB)=>aI [(true,aC)] (XZ [aF true aC y3, (aF true aM (3,a2))]) fun (y4:aB)=>BF6 y4 a1 R))
theorem AQ7 ( a0 a1 a2 R):dH bR Tryz.prog APG A49 8 83 (IS a0 a1 a2) R=AQ6 a0 a1 a2 R:=by kernel_rfl
noncomputable def AGK:mY→Option T:=AU 3
theorem AJH (x y:mY) (h:IS x.1 x.2.1 x.2.2=IS y.1 y.2.1 y.2.2):x=y:=kG 3 x y h
noncomputable def AVE:List T→Option (T):=gA (fun (x:aB×aH×cX)=>IS x.1 x.2.1 x.2.2) AGK
theorem AVF (a0:aB) (a1:aH) (a2:cX):AVE (IS a0 a1 a2)=AGK (a0,a1,a2):=dS (A:=(fun (x:aB×aH×cX)=>IS x.1 x.2.1 x.2.2)) AJH (a0,a1,a2)
theorem A9Z (h:∀ (a0:aB) (a1:aH) (a2:cX) (r:T),AGK (a0,a1,a2)=some r→(∀ t∈IS a0 a1 a2,Bd t)→AQ6 a0 a1 a2 (fun y=>y=r)):aN Tryz.prog 83 AVE :=
 b7 (E:=APG) (Hs:=A49) A0T aR aU (aL rfl) 8 ⟨_,_,Tryz.func83,rfl⟩ fun x r h1 h2=>by
  rw[AQ7]
  exact h x.1 x.2.1 x.2.2 r h1 h2
theorem A70:aN Tryz.prog 83 AVE:=A9Z fun d m x r h hb=>by
 unfold AQ6 BHX BG9 BGI BF6 BGW BFN BFF BFD BFC
 exact R8 h (by decide) (by decide) rfl rfl ((AV6 ..).trans rfl) (no:=dB) (fun hc=>(pC ..).trans (by unfold kC;dsimp only;rw[(eV hc).QE];rfl)) rfl (fun hc h1 _=>(AVU ..).trans (fQ (by rw[hc,h1];rfl)))
def IW (a0:aB) (a1:aH) (a2:cX):List T:=[aF true aC a0,aF true aJ a1,aF true aM (7,a2)]
noncomputable def APK:Env:=Env.of [(118,.pure cJ),(241,.pure YT),(243,.pure AH),(120,.pure dU),(244,.pure YB),(26,.pure cC)]
def A5D:FuncId→Hint:=fun _=>aX
theorem A0X:aQ Tryz.prog APK:=.cons iJ (.cons A8S (.cons AH3 (.cons mS (.cons A8B (.cons iX (.nil _))))))
def ARE(a0:aB)(a1:aH)(a2:cX)(R:T→Prop):Prop:=aI [(true,aM)] (YT [(aF true aM (7,a2))]) fun (y0:aZ)=>aI BFF (cJ [(aF true aM (7,a2)), aF true aM y0]) fun (y1:Bool)=>aD (!y1) (BGI R) (aI [(true,aY),(false,Sy.bool)] (AH [aF true aC a0,T.v (.string a2.2.2.2.2.1.1)]) fun (y2:dJ×Bool)=>aD y2.2 (BG9 R) (aI [(true,aC)] (dU [aF true aC a0]) fun (y3:aB)=>aI [(true,aC)] (YB [aF true aC y3, (aF true aM (7,a2))]) fun (y4:aB)=>BF6 y4 a1 R))
theorem ARF ( a0 a1 a2 R):dH bR Tryz.prog APK A5D 8 83 (IW a0 a1 a2) R=ARE a0 a1 a2 R:=by kernel_rfl
noncomputable def AGO:mY→Option T:=AU 7
theorem AJL (x y:mY) (h:IW x.1 x.2.1 x.2.2=IW y.1 y.2.1 y.2.2):x=y:=kG 7 x y h
noncomputable def AVM:List T→Option (T):=gA (fun (x:aB×aH×cX)=>IW x.1 x.2.1 x.2.2) AGO
theorem AVN (a0:aB) (a1:aH) (a2:cX):AVM (IW a0 a1 a2)=AGO (a0,a1,a2):=dS (A:=(fun (x:aB×aH×cX)=>IW x.1 x.2.1 x.2.2)) AJL (a0,a1,a2)
theorem A93 (h:∀ (a0:aB) (a1:aH) (a2:cX) (r:T),AGO (a0,a1,a2)=some r→(∀ t∈IW a0 a1 a2,Bd t)→ARE a0 a1 a2 (fun y=>y=r)):aN Tryz.prog 83 AVM :=
 b7 (E:=APK) (Hs:=A5D) A0X aR aU (aL rfl) 8 ⟨_,_,Tryz.func83,rfl⟩ fun x r h1 h2=>by
  rw[ARF]
  exact h x.1 x.2.1 x.2.2 r h1 h2
theorem A74:aN Tryz.prog 83 AVM:=A93 fun d m x r h hb=>by
 unfold ARE BG9 BGI BF6 BGW BFF BFD BFC
 exact R8 h (by decide) (by decide) rfl rfl ((AWA ..).trans rfl) (no:=dX) (fun _=>PW ..) rfl (fun hc _ _=>(AVW ..).trans (fQ hc))
def IY (a0:aB) (a1:aH) (a2:cX):List T:=[aF true aC a0,aF true aJ a1,aF true aM (9,a2)]
noncomputable def APM:Env:=Env.of [(118,.pure cJ),(261,.pure YV),(263,.pure AE),(120,.pure dU),(264,.pure YD),(26,.pure cC)]
def A5F:FuncId→Hint:=fun _=>aX
theorem A0Z:aQ Tryz.prog APM:=.cons iJ (.cons A8U (.cons AH0 (.cons mS (.cons A8D (.cons iX (.nil _))))))
def ARI(a0:aB)(a1:aH)(a2:cX)(R:T→Prop):Prop:=aI [(true,aM)] (YV [(aF true aM (9,a2))]) fun (y0:aZ)=>aI BFF (cJ [(aF true aM (9,a2)), aF true aM y0]) fun (y1:Bool)=>aD (!y1) (BGI R) (aI [(true,aE),(false,Sy.bool)] (AE [aF true aC a0,T.v (.string a2.2.2.2.2.2.1.1)]) fun (y2:aW×Bool)=>aD y2.2 (BG9 R) (aI [(true,aC)] (dU [aF true aC a0]) fun (y3:aB)=>aI [(true,aC)] (YD [aF true aC y3, (aF true aM (9,a2))]) fun (y4:aB)=>BF6 y4 a1 R))
theorem ARJ ( a0 a1 a2 R):dH bR Tryz.prog APM A5F 8 83 (IY a0 a1 a2) R=ARI a0 a1 a2 R:=by kernel_rfl
noncomputable def AGQ:mY→Option T:=AU 9
theorem AJN (x y:mY) (h:IY x.1 x.2.1 x.2.2=IY y.1 y.2.1 y.2.2):x=y:=kG 9 x y h
noncomputable def AVQ:List T→Option (T):=gA (fun (x:aB×aH×cX)=>IY x.1 x.2.1 x.2.2) AGQ
theorem AVR (a0:aB) (a1:aH) (a2:cX):AVQ (IY a0 a1 a2)=AGQ (a0,a1,a2):=dS (A:=(fun (x:aB×aH×cX)=>IY x.1 x.2.1 x.2.2)) AJN (a0,a1,a2)
theorem A95 (h:∀ (a0:aB) (a1:aH) (a2:cX) (r:T),AGQ (a0,a1,a2)=some r→(∀ t∈IY a0 a1 a2,Bd t)→ARI a0 a1 a2 (fun y=>y=r)):aN Tryz.prog 83 AVQ :=
 b7 (E:=APM) (Hs:=A5F) A0Z aR aU (aL rfl) 8 ⟨_,_,Tryz.func83,rfl⟩ fun x r h1 h2=>by
  rw[ARJ]
  exact h x.1 x.2.1 x.2.2 r h1 h2
theorem A76:aN Tryz.prog 83 AVQ:=A95 fun d m x r h hb=>by
 unfold ARI BG9 BGI BF6 BGW BFF BFD BFC
 exact R8 h (by decide) (by decide) rfl rfl ((AWC ..).trans rfl) (no:=noPack) (o:=nW d (gY (9,x)).1) (fun hc=>(PR ..).trans (by unfold x8;exact AAA _ (eV hc).OE)) rfl (fun hc _ h2=>(AVY ..).trans (fQ (by rw[hc,h2];rfl)))
def IQ (a0:aB) (a1:aH) (a2:cX):List T:=[aF true aC a0,aF true aJ a1,aF true aM (2,a2)]
noncomputable def APF:Env:=Env.of [(118,.pure cJ),(201,.pure YQ),(195,.pure AD),(184,.pure B4),(120,.pure dU),(203,.pure XY),(26,.pure cC)]
def A48:FuncId→Hint:=fun _=>aX
theorem A0S:aQ Tryz.prog APF:=.cons iJ (.cons A8N (.cons AHZ (.cons AU4 (.cons mS (.cons A78 (.cons iX (.nil _)))))))
def BGQ(R:T→Prop):Prop:=R (T.bU [BFC, T.v (.int .i64 8)])
def BG7(R:T→Prop):Prop:=R (T.bU [BFC, T.v (.int .i64 34)])
def BHO(a0:aB)(a2:cX):List T:=[aF true aC a0,T.v (.string a2.1)]
def AQ4(a0:aB)(a1:aH)(a2:cX)(R:T→Prop):Prop:=aI [(true,aM)] (YQ [(aF true aM (2,a2))]) fun (y0:aZ)=>aI BFF (cJ [(aF true aM (2,a2)), aF true aM y0]) fun (y1:Bool)=>aD (!y1) (BGI R) (aI [(true,aV),(false,Sy.bool)] (AD (BHO a0 a2)) fun (y2:dC×Bool)=>aD (!y2.2) (BGQ R) (aI BFF (B4 [aF true aC a0, (aF true aM (2,a2))]) fun (y3:Bool)=>aD y3 (BG7 R) (aI [(true,aC)] (dU [aF true aC a0]) fun (y4:aB)=>aI [(true,aC)] (XY [aF true aC y4, (aF true aM (2,a2))]) fun (y5:aB)=>BF6 y5 a1 R)))
theorem AQ5 ( a0 a1 a2 R):dH bR Tryz.prog APF A48 8 83 (IQ a0 a1 a2) R=AQ4 a0 a1 a2 R:=by kernel_rfl
noncomputable def AGJ:mY→Option T:=AU 2
theorem AJG (x y:mY) (h:IQ x.1 x.2.1 x.2.2=IQ y.1 y.2.1 y.2.2):x=y:=kG 2 x y h
noncomputable def AVC:List T→Option (T):=gA (fun (x:aB×aH×cX)=>IQ x.1 x.2.1 x.2.2) AGJ
theorem AVD (a0:aB) (a1:aH) (a2:cX):AVC (IQ a0 a1 a2)=AGJ (a0,a1,a2):=dS (A:=(fun (x:aB×aH×cX)=>IQ x.1 x.2.1 x.2.2)) AJG (a0,a1,a2)
theorem A9Y (h:∀ (a0:aB) (a1:aH) (a2:cX) (r:T),AGJ (a0,a1,a2)=some r→(∀ t∈IQ a0 a1 a2,Bd t)→AQ4 a0 a1 a2 (fun y=>y=r)):aN Tryz.prog 83 AVC :=
 b7 (E:=APF) (Hs:=A48) A0S aR aU (aL rfl) 8 ⟨_,_,Tryz.func83,rfl⟩ fun x r h1 h2=>by
  rw[AQ5]
  exact h x.1 x.2.1 x.2.2 r h1 h2
theorem A7Z:aN Tryz.prog 83 AVC:=A9Y fun d m x r h hb=>by
 unfold AQ4 BHO BG7 BGQ BGI BF6 BGW BFF BFD BFC
 exact R9 h (by decide) (by decide) rfl ((AV5 ..).trans rfl) (no:=dW) (fun _=>PQ ..) rfl (fun hc=>(AET ..).trans (fQ hc)) (fun hc=>(AVT ..).trans (fQ hc))
def IT (a0:aB) (a1:aH) (a2:cX):List T:=[aF true aC a0,aF true aJ a1,aF true aM (4,a2)]
noncomputable def APH:Env:=Env.of [(118,.pure cJ),(220,.pure YS),(119,.pure kH),(208,.pure B6),(120,.pure dU),(222,.pure YA),(26,.pure cC)]
def A5A:FuncId→Hint:=fun _=>aX
theorem A0U:aQ Tryz.prog APH:=.cons iJ (.cons A8P (.cons BN (.cons AU6 (.cons mS (.cons A8A (.cons iX (.nil _)))))))
def AQ8(a0:aB)(a1:aH)(a2:cX)(R:T→Prop):Prop:=aI [(true,aM)] (YS [(aF true aM (4,a2))]) fun (y0:aZ)=>aI BFF (cJ [(aF true aM (4,a2)), aF true aM y0]) fun (y1:Bool)=>aD (!y1) (BGI R) (aI BFN (kH (BHO a0 a2)) fun (y2:a8×Bool)=>aD (!y2.2) (BGQ R) (aI BFF (B6 [aF true aC a0, (aF true aM (4,a2))]) fun (y3:Bool)=>aD y3 (BG7 R) (aI [(true,aC)] (dU [aF true aC a0]) fun (y4:aB)=>aI [(true,aC)] (YA [aF true aC y4, (aF true aM (4,a2))]) fun (y5:aB)=>BF6 y5 a1 R)))
theorem AQ9 ( a0 a1 a2 R):dH bR Tryz.prog APH A5A 8 83 (IT a0 a1 a2) R=AQ8 a0 a1 a2 R:=by kernel_rfl
noncomputable def AGL:mY→Option T:=AU 4
theorem AJI (x y:mY) (h:IT x.1 x.2.1 x.2.2=IT y.1 y.2.1 y.2.2):x=y:=kG 4 x y h
noncomputable def AVG:List T→Option (T):=gA (fun (x:aB×aH×cX)=>IT x.1 x.2.1 x.2.2) AGL
theorem AVH (a0:aB) (a1:aH) (a2:cX):AVG (IT a0 a1 a2)=AGL (a0,a1,a2):=dS (A:=(fun (x:aB×aH×cX)=>IT x.1 x.2.1 x.2.2)) AJI (a0,a1,a2)
theorem A90 (h:∀ (a0:aB) (a1:aH) (a2:cX) (r:T),AGL (a0,a1,a2)=some r→(∀ t∈IT a0 a1 a2,Bd t)→AQ8 a0 a1 a2 (fun y=>y=r)):aN Tryz.prog 83 AVG :=
 b7 (E:=APH) (Hs:=A5A) A0U aR aU (aL rfl) 8 ⟨_,_,Tryz.func83,rfl⟩ fun x r h1 h2=>by
  rw[AQ9]
  exact h x.1 x.2.1 x.2.2 r h1 h2
theorem A71:aN Tryz.prog 83 AVG:=A90 fun d m x r h hb=>by
 unfold AQ8 BHO BG7 BGQ BGI BF6 BGW BFN BFF BFD BFC
 exact R9 h (by decide) (by decide) rfl ((AV7 ..).trans rfl) (no:=dB) (fun hc=>(pC ..).trans (by unfold kC;dsimp only;rw[(eV hc).QE];rfl)) rfl (fun hc=>(AEV ..).trans (fQ hc)) (fun hc=>(AVV ..).trans (fQ hc))
def IX (a0:aB) (a1:aH) (a2:cX):List T:=[aF true aC a0,aF true aJ a1,aF true aM (8,a2)]
noncomputable def APL:Env:=Env.of [(118,.pure cJ),(249,.pure YU),(243,.pure AH),(229,.pure jD),(120,.pure dU),(251,.pure YC),(26,.pure cC)]
def A5E:FuncId→Hint:=fun _=>aX
theorem A0Y:aQ Tryz.prog APL:=.cons iJ (.cons A8T (.cons AH3 (.cons rQ (.cons mS (.cons A8C (.cons iX (.nil _)))))))
def ARG(a0:aB)(a1:aH)(a2:cX)(R:T→Prop):Prop:=aI [(true,aM)] (YU [(aF true aM (8,a2))]) fun (y0:aZ)=>aI BFF (cJ [(aF true aM (8,a2)), aF true aM y0]) fun (y1:Bool)=>aD (!y1) (BGI R) (aI [(true,aY),(false,Sy.bool)] (AH (BHO a0 a2)) fun (y2:dJ×Bool)=>aD (!y2.2) (BGQ R) (aI BFF (jD [aF true aC a0, (aF true aM (8,a2))]) fun (y3:Bool)=>aD y3 (BG7 R) (aI [(true,aC)] (dU [aF true aC a0]) fun (y4:aB)=>aI [(true,aC)] (YC [aF true aC y4, (aF true aM (8,a2))]) fun (y5:aB)=>BF6 y5 a1 R)))
theorem ARH ( a0 a1 a2 R):dH bR Tryz.prog APL A5E 8 83 (IX a0 a1 a2) R=ARG a0 a1 a2 R:=by kernel_rfl
noncomputable def AGP:mY→Option T:=AU 8
theorem AJM (x y:mY) (h:IX x.1 x.2.1 x.2.2=IX y.1 y.2.1 y.2.2):x=y:=kG 8 x y h
noncomputable def AVO:List T→Option (T):=gA (fun (x:aB×aH×cX)=>IX x.1 x.2.1 x.2.2) AGP
theorem AVP (a0:aB) (a1:aH) (a2:cX):AVO (IX a0 a1 a2)=AGP (a0,a1,a2):=dS (A:=(fun (x:aB×aH×cX)=>IX x.1 x.2.1 x.2.2)) AJM (a0,a1,a2)
theorem A94 (h:∀ (a0:aB) (a1:aH) (a2:cX) (r:T),AGP (a0,a1,a2)=some r→(∀ t∈IX a0 a1 a2,Bd t)→ARG a0 a1 a2 (fun y=>y=r)):aN Tryz.prog 83 AVO :=
 b7 (E:=APL) (Hs:=A5E) A0Y aR aU (aL rfl) 8 ⟨_,_,Tryz.func83,rfl⟩ fun x r h1 h2=>by
  rw[ARH]
  exact h x.1 x.2.1 x.2.2 r h1 h2
theorem A75:aN Tryz.prog 83 AVO:=A94 fun d m x r h hb=>by
 unfold ARG BHO BG7 BGQ BGI BF6 BGW BFF BFD BFC
 exact R9 h (by decide) (by decide) rfl ((AWB ..).trans rfl) (no:=dX) (fun _=>PW ..) rfl (fun _=>(G8 ..).trans rfl) (fun hc=>(AVX ..).trans (fQ hc))
def zJ (a0:aB) (a1:aH) (a2:cX):List T:=[aF true aC a0,aF true aJ a1,aF true aM (10,a2)]
noncomputable def AA8:Env:=Env.of [(118,.pure cJ),(270,.pure LQ),(263,.pure AE),(256,.pure B5),(120,.pure dU),(272,.pure LL),(26,.pure cC)]
def ASM:FuncId→Hint:=fun _=>aX
theorem AQI:aQ Tryz.prog AA8:=.cons iJ (.cons A3F (.cons AH0 (.cons AU5 (.cons mS (.cons A3C (.cons iX (.nil _)))))))
def AB8(a0:aB)(a1:aH)(a2:cX)(R:T→Prop):Prop:=aI [(true,aM)] (LQ [(aF true aM (10,a2))]) fun (y0:aZ)=>aI BFF (cJ [(aF true aM (10,a2)), aF true aM y0]) fun (y1:Bool)=>aD (!y1) (BGI R) (aI [(true,aE),(false,Sy.bool)] (AE (BHO a0 a2)) fun (y2:aW×Bool)=>aD (!y2.2) (BGQ R) (aI BFF (B5 [aF true aC a0, (aF true aM (10,a2))]) fun (y3:Bool)=>aD y3 (BG7 R) (aI [(true,aC)] (dU [aF true aC a0]) fun (y4:aB)=>aI [(true,aC)] (LL [aF true aC y4, (aF true aM (10,a2))]) fun (y5:aB)=>BF6 y5 a1 R)))
theorem AKT ( a0 a1 a2 R):dH bR Tryz.prog AA8 ASM 8 83 (zJ a0 a1 a2) R=AB8 a0 a1 a2 R:=by kernel_rfl
noncomputable def UD:mY→Option T:=AU 10
theorem AA1 (x y:mY) (h:zJ x.1 x.2.1 x.2.2=zJ y.1 y.2.1 y.2.2):x=y:=kG 10 x y h
noncomputable def AEB:List T→Option (T):=gA (fun (x:aB×aH×cX)=>zJ x.1 x.2.1 x.2.2) UD
theorem AMZ (a0:aB) (a1:aH) (a2:cX):AEB (zJ a0 a1 a2)=UD (a0,a1,a2):=dS (A:=(fun (x:aB×aH×cX)=>zJ x.1 x.2.1 x.2.2)) AA1 (a0,a1,a2)
theorem A36 (h:∀ (a0:aB) (a1:aH) (a2:cX) (r:T),UD (a0,a1,a2)=some r→(∀ t∈zJ a0 a1 a2,Bd t)→AB8 a0 a1 a2 (fun y=>y=r)):aN Tryz.prog 83 AEB :=
 b7 (E:=AA8) (Hs:=ASM) AQI aR aU (aL rfl) 8 ⟨_,_,Tryz.func83,rfl⟩ fun x r h1 h2=>by
  rw[AKT]
  exact h x.1 x.2.1 x.2.2 r h1 h2
theorem A26:aN Tryz.prog 83 AEB:=A36 fun d m x r h hb=>by
 unfold AB8 BHO BG7 BGQ BGI BF6 BGW BFF BFD BFC
 exact R9 h (by decide) (by decide) rfl ((AM8 ..).trans rfl) (no:=noPack) (o:=nW d (gG (10,x))) (fun hc=>(PR ..).trans (by unfold x8;exact AAA _ (eV hc).OE)) rfl (fun hc=>(AEU ..).trans (fQ hc)) (fun hc=>(AM4 ..).trans (fQ hc))
theorem ifC {p q s:Prop} {i:Decidable p} {j:Decidable q} {k:Decidable s} {A B:Prop} (h1:p∧q∧s→A) (h2:¬ (p∧q∧s)→B):aD (@decide p i&&(@decide q j&&(@decide s k&&true))) A B:=by
 by_cases h:p∧q∧s
 ·rw[decide_eq_true h.1,decide_eq_true h.2.1,decide_eq_true h.2.2];exact h1 h
 ·have:(@decide p i&&(@decide q j&&(@decide s k&&true)))=false:=by
   rw[Bool.eq_false_iff]
   intro e
   simp only[Bool.and_eq_true,decide_eq_true_eq,and_true] at e
   exact h e
  rw[this];exact h2 h
theorem xM {a b:b8}:(a.1=b.1∧a.2.1=b.2.1∧a.2.2=b.2.2)↔a=b:=by
 simp only[Prod.ext_iff]
def zK (a0:aB) (a1:aH) (a2:cX):List T:=[aF true aC a0,aF true aJ a1,aF true aM (11,a2)]
noncomputable def AA9:Env:=Env.of [(118,.pure cJ),(276,.pure tE),(229,.pure jD),(120,.pure dU),(280,.pure pB),(71,.dup 3 40),(324,.grow 3 jM),(325,.grow 3 xI),(26,.pure cC)]
def ASN:FuncId→Hint:=bV 305 [(2,.inv [.val 8 false (.int .i64)])] (bV 321 [(2,.inv [.val 8 false (.int .i64)])] (fun _=>aX))
theorem AQJ:aQ Tryz.prog AA9:=.cons iJ (.cons AH2 (.cons rQ (.cons mS (.cons PA (aQ.cons (x:=.dup 3 40) zX (.cons K8 (.cons K7 (.cons iX (.nil _)))))))))
def BF3(y5:aB)(y10:List b8)(a1:aH)(R:T→Prop):Prop:=aI BFD (cC [(aF true aC (y5.1,y5.2.1,y5.2.2.1,y5.2.2.2.1,y5.2.2.2.2.1,y10)), aF true aJ a1]) fun (y11:Int)=>aD (!decide (y11=0)) (BGW R y11) (R (T.bU [(aF true aC (y5.1,y5.2.1,y5.2.2.1,y5.2.2.2.1,y5.2.2.2.2.1,y10)), T.v (.int .i64 0)]))
def BHH(a2:cX):List T:=[T.v (.int .i64 a2.2.2.2.2.2.2.1), T.v (.string a2.2.2.2.2.2.2.2.1), T.v (.string a2.2.2.2.2.2.2.2.2)]
def BGJ(y5:aB)(a2:cX)(a1:aH)(R:T→Prop):Prop:=eE aP (jM (BFZ y5) [T.v (.int .i64 (↑(BFZ y5).length:Int)), T.sl true [(BHH a2)]]) fun (y14:List b8)=>BF3 y5 y14 a1 R
def BGB(s7:Int×PUnit)(y5:aB)(a2:cX)(a1:aH)(R:T→Prop):Prop:=aD (decide (s7.1<0)) (bN (((BFZ y5).all fun (r:List T)=>decide (r.length=3)) && decide ((BFZ y5).length*40 ≤ 140737488355328) && decide ((BFZ y5).length≤140737488355328)) (BGJ y5 a2 a1 R)) (bN (((BFZ y5).all fun (r:List T)=>decide (r.length=3)) && decide ((BFZ y5).length*40 ≤ 140737488355328) && decide ((BFZ y5).length≤140737488355328)) (eE aP (jM (BFZ y5) [T.v (.int .i64 s7.1), T.sl true [(BHH a2)]]) fun (y12:List b8)=>BF3 y5 y12 a1 R))
def BG5(y5:aB)(a2:cX)(a1:aH)(R:T→Prop):Prop:=bN (((BFZ y5).all fun (r:List T)=>decide (r.length=3)) && decide ((BFZ y5).length*40≤140737488355328) && decide ((BFZ y5).length≤140737488355328)) (BGJ y5 a2 a1 R)
def AB9(a0:aB)(a1:aH)(a2:cX)(R:T→Prop):Prop:=aI [(true,aM)] (tE [(aF true aM (11,a2))]) fun (y0:aZ)=>aI BFF (cJ [(aF true aM (11,a2)), aF true aM y0]) fun (y1:Bool)=>aD (!y1) (BGI R) (a7 (Int×PUnit) (fun X2 s3=>aD (decide (s3.1<(↑(BFZ a0).length:Int))) (aS aP (BFZ a0) s3.1 fun (y4:b8)=>aD (decide (a2.2.2.2.2.2.2.1=y4.1) && (decide (a2.2.2.2.2.2.2.2.1=y4.2.1) && (decide (a2.2.2.2.2.2.2.2.2=y4.2.2)&&true))) (aD (decide (0≤s3.1)) (BG9 R) (aI [(true,aC)] (dU [aF true aC a0]) fun (y5:aB)=>a7 (Int×PUnit) (fun X6 s7=>aD (decide (s7.1<(↑(BFZ y5).length:Int))) (aS aP (BFZ y5) s7.1 fun (y8:b8)=>aI BFF (pB [aF true aP y8, aF true aP a2.2.2.2.2.2.2]) fun (y9:Bool)=>aD y9 (BGB s7 y5 a2 a1 R) (BF1 X6 s7)) (BG5 y5 a2 a1 R)) (0,()))) (BF1 X2 s3)) (aI [(true,aC)] (dU [aF true aC a0]) fun (y16:aB)=>a7 (Int×PUnit) (fun X17 s18=>aD (decide (s18.1<(↑(BFZ y16).length:Int))) (aS aP (BFZ y16) s18.1 fun (y19:b8)=>aI BFF (pB [aF true aP y19,aF true aP a2.2.2.2.2.2.2]) fun (y20:Bool)=>aD y20 (BGB s18 y16 a2 a1 R) (BF1 X17 s18)) (BG5 y16 a2 a1 R)) (0,()))) (0,()))
theorem AKU ( a0 a1 a2 R):dH bR Tryz.prog AA9 ASN 8 83 (zK a0 a1 a2) R=AB9 a0 a1 a2 R:=by kernel_rfl
noncomputable def UE:mY→Option T:=AU 11
theorem AA2 (x y:mY) (h:zK x.1 x.2.1 x.2.2=zK y.1 y.2.1 y.2.2):x=y:=kG 11 x y h
noncomputable def AEC:List T→Option (T):=gA (fun (x:aB×aH×cX)=>zK x.1 x.2.1 x.2.2) UE
theorem AM0 (a0:aB) (a1:aH) (a2:cX):AEC (zK a0 a1 a2)=UE (a0,a1,a2):=dS (A:=(fun (x:aB×aH×cX)=>zK x.1 x.2.1 x.2.2)) AA2 (a0,a1,a2)
theorem A37 (h:∀ (a0:aB) (a1:aH) (a2:cX) (r:T),UE (a0,a1,a2)=some r→(∀ t∈zK a0 a1 a2,Bd t)→AB9 a0 a1 a2 (fun y=>y=r)):aN Tryz.prog 83 AEC :=
 b7 (E:=AA9) (Hs:=ASN) AQJ aR aU (aL rfl) 8 ⟨_,_,Tryz.func83,rfl⟩ fun x r h1 h2=>by
  rw[AKU]
  exact h x.1 x.2.1 x.2.2 r h1 h2
theorem A27:aN Tryz.prog 83 AEC:=A37 fun d m x r h hb=>by
 clear hb
 obtain ⟨hp,rfl⟩:=rC h
 clear h
 obtain ⟨hc,ho1,ho2⟩:=C5 hp
 have c:=eV hc
 have is:∀ {a:aB×Int},bT d m (11,x)=a→Sh.enc [(true,aC),(false,.int .i64)] a=Sh.enc [(true,aC),(false,.int .i64)] (bT d m (11,x)):=fun h=>by rw[h]
 have hk:(1:Int)≤((11,x):aZ).1∧((11,x):aZ).1≤12:=by dsimp only;omega
 have h5:¬ ((11,x):aZ).1=5:=by dsimp only;omega
 have lift:∀ {a:aB×Int},bT d m (11,x)=a→∀ v,v=Sh.enc [(true,aC),(false,.int .i64)] a→v=Sh.enc [(true,aC),(false,.int .i64)] (bT d m (11,x)):=fun h v hv=>by rw[h];exact hv
 unfold AB9 BG9 BG5 BGI BGB BGJ BHH BF3 BGW BF1 BFZ BFF BFD BFC
 have z1:tE [aF true aM (11,x)]=some (Sh.enc [(true,aM)] (cZ (11,x))):=(PT ..).trans rfl
 refine aG (s:=[(true,aM)]) (y:=cZ (11,x)) z1 ?_
 have z2:cJ [aF true aM (11,x),aF true aM (cZ (11,x))]=some (Sh.enc HV (w9 (11,x) (cZ (11,x)))):=pE ..
 refine aG (s:=HV) (y:=w9 (11,x) (cZ (11,x))) z2 ?_
 refine kQ (fun h=>lift (BC hk h) _ rfl) fun hE=>?_
 have hd:=vE (r:=aP) (l:=d.2.2.2.2.2) (z:=3) (b:=40) rfl (dE c.r (by decide))
 have pos:∀ {k:Nat},¬ (0≤(k:Int))→False:=fun h=>h (by omega)
 have hus:pQ d (11,x)=false:=rfl
 have tail:∀ (hth:gF d (11,x) = !lM (11,x)) (l:List b8) (hl:l=nT EJ d.2.2.2.2.2 (nX (11,x))),aI [(false,Sy.int IntKind.i64)] (cC [aF true aC (d.1,d.2.1,d.2.2.1,d.2.2.2.1,d.2.2.2.2.1,l),aF true aJ m]) fun (y:Int) =>
   aD (!decide (y=0)) (Sh.enc [(true,aC),(false,.int .i64)] (kT,y)=Sh.enc [(true,aC),(false,.int .i64)] (bT d m (11,x))) (Sh.enc [(true,aC),(false,.int .i64)] ((d.1,d.2.1,d.2.2.1,d.2.2.2.1,d.2.2.2.2.1,l),0)=Sh.enc [(true,aC),(false,.int .i64)] (bT d m (11,x))):=fun hth l hl=>by
  subst hl
  refine aG (s:=[(false,.int .i64)]) (y:=gK (uP d (11,x)) m) (mI ..) ?_
  exact lI (fun h=>is ((sP hk h5 hE hth hus).trans (if_neg h))) fun h=>is ((sP hk h5 hE hth hus).trans (if_pos h))
 refine cL (r:=aP) (fun n=>decide (n=nX (11,x))) (nU c.r) (fun X k y hlt hy hp hn=>?_) (fun _ h0=>?_)
 ·dsimp only
  refine ifC (fun h=>?_) fun h=>hn (decide_eq_false fun e=>h (xM.2 e.symm))
  obtain ⟨_,h2⟩:=hp (decide_eq_true (xM.1 h).symm)
  exact bZ (fun _=>lift (OV hk h5 hE rfl h2) _ rfl) fun h=>(pos h).elim
 ·have hth:gF d (11,x) = !lM (11,x):=h0
  refine aG (s:=[(true,aC)]) (y:=d) ((rT ..).trans (fQ hc)) ?_
  refine cL (r:=aP) (fun y=>EJ y (nX (11,x))) (nU c.r) (fun X k y hk' hy hp hn=>?_) (fun h _=>?_)
  ·dsimp only
   refine aG (s:=HV) (y:=EJ y (nX (11,x))) (YL ..) ?_
   refine E5 (fun h=>?_) fun h=>hn h
   obtain ⟨hi,_⟩:=hp h
   refine bZ (fun h=>by omega) fun _=>⟨hd,?_⟩
   refine dM (r:=aP) (l:=d.2.2.2.2.2.take k++nX (11,x)::d.2.2.2.2.2.drop k) (rA (r:=aP) (x:=nX (11,x)) rfl (by omega) c.r (by decide)) _ ?_
   exact tail hth _ (by unfold nT;rw[hi])
  ·refine ⟨hd,?_⟩
   rw[show (((List.map aP.enc d.2.2.2.2.2).length:Nat):Int)=((d.2.2.2.2.2.length:Nat):Int) by rw[List.length_map]]
   refine dM (r:=aP) (l:=d.2.2.2.2.2.take d.2.2.2.2.2.length++nX (11,x)::d.2.2.2.2.2.drop d.2.2.2.2.2.length) (rA (r:=aP) (x:=nX (11,x)) rfl (Nat.le_refl _) c.r (by decide)) _ ?_
   exact tail hth _ (by unfold nT;rw[h])
def zL (a0:aB) (a1:aH) (a2:cX):List T:=[aF true aC a0,aF true aJ a1,aF true aM (12,a2)]
noncomputable def ABA:Env:=Env.of [(118,.pure cJ),(276,.pure tE),(229,.pure jD),(120,.pure dU),(280,.pure pB),(71,.dup 3 40),(324,.grow 3 jM),(325,.grow 3 xI),(26,.pure cC)]
def ASO:FuncId→Hint:=bV 305 [(2,.inv [.val 8 false (.int .i64)])] (bV 321 [(2,.inv [.val 8 false (.int .i64)])] (fun _=>aX))
theorem AQK:aQ Tryz.prog ABA:=.cons iJ (.cons AH2 (.cons rQ (.cons mS (.cons PA (aQ.cons (x:=.dup 3 40) zX (.cons K8 (.cons K7 (.cons iX (.nil _)))))))))
def BGO(y6:aB)(a1:aH)(R:T→Prop):Prop:=bN (((BFZ y6).all fun (r:List T)=>decide (r.length=3)) && decide ((BFZ y6).length*40 ≤ 140737488355328) && decide ((BFZ y6).length≤140737488355328)) (aI BFD (cC [aF true aC y6,aF true aJ a1]) fun (y10:Int)=>aD (!decide (y10=0)) (BGW R y10) (R (T.bU [aF true aC y6, T.v (.int .i64 0)])))
def ACA(a0:aB)(a1:aH)(a2:cX)(R:T→Prop):Prop:=aI [(true,aM)] (tE [(aF true aM (12,a2))]) fun (y0:aZ)=>aI BFF (cJ [(aF true aM (12,a2)), aF true aM y0]) fun (y1:Bool)=>aD (!y1) (BGI R) (a7 (Int×PUnit) (fun X2 s3=>aD (decide (s3.1<(↑(BFZ a0).length:Int))) (aS aP (BFZ a0) s3.1 fun (y4:b8)=>aD (decide (a2.2.2.2.2.2.2.1=y4.1) && (decide (a2.2.2.2.2.2.2.2.1=y4.2.1) && (decide (a2.2.2.2.2.2.2.2.2=y4.2.2)&&true))) (aD (!decide (0≤s3.1)) (BGQ R) (aI BFF (jD [aF true aC a0, (aF true aM (12,a2))]) fun (y5:Bool)=>aD y5 (BG7 R) (aI [(true,aC)] (dU [aF true aC a0]) fun (y6:aB)=>a7 (Int×PUnit) (fun X7 s8=>aD (decide (s8.1<(↑(BFZ y6).length:Int))) (aS aP (BFZ y6) s8.1 fun (y9:b8)=>aD (decide (y9.1=a2.2.2.2.2.2.2.1) && (decide (y9.2.1=a2.2.2.2.2.2.2.2.1) && (decide (y9.2.2=a2.2.2.2.2.2.2.2.2)&&true))) (aD (decide (s8.1<0)) (BGO y6 a1 R) (bN (((BFZ y6).all fun (r:List T)=>decide (r.length=3)) && decide ((BFZ y6).length*40 ≤ 140737488355328) && decide ((BFZ y6).length≤140737488355328)) (eE aP (xI (BFZ y6) (BGN s8)) fun (y11:List b8)=>BF3 y6 y11 a1 R))) (BF1 X7 s8)) (BGO y6 a1 R)) (0,())))) (BF1 X2 s3)) (BGQ R)) (0,()))
theorem AKV ( a0 a1 a2 R):dH bR Tryz.prog ABA ASO 8 83 (zL a0 a1 a2) R=ACA a0 a1 a2 R:=by kernel_rfl
noncomputable def UF:mY→Option T:=AU 12
theorem AA3 (x y:mY) (h:zL x.1 x.2.1 x.2.2=zL y.1 y.2.1 y.2.2):x=y:=kG 12 x y h
noncomputable def AED:List T→Option (T):=gA (fun (x:aB×aH×cX)=>zL x.1 x.2.1 x.2.2) UF
theorem AM1 (a0:aB) (a1:aH) (a2:cX):AED (zL a0 a1 a2)=UF (a0,a1,a2):=dS (A:=(fun (x:aB×aH×cX)=>zL x.1 x.2.1 x.2.2)) AA3 (a0,a1,a2)
theorem A38 (h:∀ (a0:aB) (a1:aH) (a2:cX) (r:T),UF (a0,a1,a2)=some r→(∀ t∈zL a0 a1 a2,Bd t)→ACA a0 a1 a2 (fun y=>y=r)):aN Tryz.prog 83 AED :=
 b7 (E:=ABA) (Hs:=ASO) AQK aR aU (aL rfl) 8 ⟨_,_,Tryz.func83,rfl⟩ fun x r h1 h2=>by
  rw[AKV]
  exact h x.1 x.2.1 x.2.2 r h1 h2
theorem A28:aN Tryz.prog 83 AED:=A38 fun d m x r h hb=>by
 clear hb
 obtain ⟨hp,rfl⟩:=rC h
 clear h
 obtain ⟨hc,ho1,ho2⟩:=C5 hp
 have c:=eV hc
 have is:∀ {a:aB×Int},bT d m (12,x)=a→Sh.enc [(true,aC),(false,.int .i64)] a=Sh.enc [(true,aC),(false,.int .i64)] (bT d m (12,x)):=fun h=>by rw[h]
 have hk:(1:Int)≤((12,x):aZ).1∧((12,x):aZ).1≤12:=by dsimp only;omega
 have h5:¬ ((12,x):aZ).1=5:=by dsimp only;omega
 have lift:∀ {a:aB×Int},bT d m (12,x)=a→∀ v,v=Sh.enc [(true,aC),(false,.int .i64)] a→v=Sh.enc [(true,aC),(false,.int .i64)] (bT d m (12,x)):=fun h v hv=>by rw[h];exact hv
 unfold ACA BG7 BGQ BGO BGN BGI BF3 BGW BF1 BFZ BFF BFD BFC
 have z1:tE [aF true aM (12,x)]=some (Sh.enc [(true,aM)] (cZ (12,x))):=(PT ..).trans rfl
 refine aG (s:=[(true,aM)]) (y:=cZ (12,x)) z1 ?_
 have z2:cJ [aF true aM (12,x),aF true aM (cZ (12,x))]=some (Sh.enc HV (w9 (12,x) (cZ (12,x)))):=pE ..
 refine aG (s:=HV) (y:=w9 (12,x) (cZ (12,x))) z2 ?_
 refine kQ (fun h=>lift (BC hk h) _ rfl) fun hE=>?_
 have hd:=vE (r:=aP) (l:=d.2.2.2.2.2) (z:=3) (b:=40) rfl (dE c.r (by decide))
 have pos:∀ {k:Nat},¬ (0≤(k:Int))→False:=fun h=>h (by omega)
 have hus:pQ d (12,x)=false:=rfl
 refine cL (r:=aP) (fun n=>decide (n=nX (12,x))) (nU c.r) (fun X k y hlt hy hp hn=>?_) (fun _ h0=>lift (J9 hk h5 hE rfl h0) _ rfl)
 dsimp only
 refine ifC (fun h=>?_) fun h=>hn (decide_eq_false fun e=>h (xM.2 e.symm))
 obtain ⟨_,h2⟩:=hp (decide_eq_true (xM.1 h).symm)
 have hth:gF d (12,x) = !lM (12,x):=h2
 refine kQ (fun h=>(pos (of_decide_eq_false h)).elim) fun _=>?_
 have z4:jD [aF true aC d,aF true aM (12,x)]=some (Sh.enc HV (pQ d (12,x))):=(G8 ..).trans rfl
 refine aG (s:=HV) (y:=pQ d (12,x)) z4 ?_
 refine E5 (fun h=>absurd h (by rw[hus];decide)) fun _=>?_
 refine aG (s:=[(true,aC)]) (y:=d) ((rT ..).trans (fQ hc)) ?_
 clear hp hn
 refine cL (r:=aP) (fun n=>decide (n=nX (12,x))) (nU c.r) (fun X k y hk' hy hp hn=>?_) (fun h h3=>?_)
 ·dsimp only
  refine ifC (fun h=>?_) fun h=>hn (decide_eq_false fun e=>h (xM.2 e))
  obtain ⟨hi,_⟩:=hp (decide_eq_true (xM.1 h))
  refine bZ (fun h=>by omega) fun _=>⟨hd,?_⟩
  have eD:uP d (12,x)=(d.1,d.2.1,d.2.2.1,d.2.2.2.1,d.2.2.2.2.1,d.2.2.2.2.2.take k++d.2.2.2.2.2.drop (k+1)):=by
   show (d.1,d.2.1,d.2.2.1,d.2.2.2.1,d.2.2.2.2.1,lH (fun n=>decide (n=nX (12,x))) d.2.2.2.2.2)=_
   unfold lH;rw[hi]
  refine dM (r:=aP) (l:=d.2.2.2.2.2.take k++d.2.2.2.2.2.drop (k+1)) (EO (r:=aP) rfl hk' c.r) _ ?_
  have z5:cC [aF true aC (d.1,d.2.1,d.2.2.1,d.2.2.2.1,d.2.2.2.2.1,d.2.2.2.2.2.take k++d.2.2.2.2.2.drop (k+1)),aF true aJ m]=some (Sh.enc [(false,Sy.int .i64)] (gK (d.1,d.2.1,d.2.2.1,d.2.2.2.1,d.2.2.2.2.1,d.2.2.2.2.2.take k++d.2.2.2.2.2.drop (k+1)) m)):=mI ..
  refine aG (s:=[(false,.int .i64)]) (y:=gK (uP d (12,x)) m) (by rw[eD];exact z5) ?_
  exact lI (fun h=>lift ((sP hk h5 hE hth hus).trans (if_neg h)) _ rfl) fun h=>lift ((sP hk h5 hE hth hus).trans (if_pos h)) _ (by rw[eD];rfl)
 ·exfalso
  have:=h2.symm.trans h3
  cases this
end Go.Pv
namespace Go.Pv
open Go Go.Proofs
theorem AHM {α:Type} {is:α→Bool} {f:α→α} {l:List α} {k:Nat} (hk:k<l.length) (h:l.findIdx is=k):atI is f l=l.set k (f l[k]):=by
 unfold atI
 rw[h]
 refine List.ext_getElem (by simp) fun i h1 h2=>?_
 rw[List.getElem_modify,List.getElem_set]
 by_cases e:k=i
 ·subst e;simp
 ·simp[e]
theorem AI6 {r:Sy} {l:List r.den} {k:Nat} {y:r.den} {row:List T} (h:row=r.enc y):(List.map r.enc l).set k row=List.map r.enc (l.set k y):=by rw[h,List.map_set]
theorem QW {α:Type}:∀ (s pre r:List α),r.length=s.length→bO (pre++r) pre.length s=pre++s
 | [],pre,[],_=>rfl
 | [],_,_::_,h=>by cases h
 | _::_,_,[],h=>by cases h
 | x::s,pre,a::r,h=>by
  unfold bO
  rw[show (pre++a::r).set pre.length x=(pre++[x])++r by simp,show pre.length+1=(pre++[x]).length by simp,QW s (pre++[x]) r (by simpa using h)]
  simp
theorem AG1 {α:Type} (r s:List α) (h:r.length=s.length):bO r 0 s=s:=QW s [] r h
theorem AAF {d:aB} {id:ByteArray} (h:(partOf d id).isSome=true):d.2.2.1≠[]:=by
 intro e
 unfold partOf at h
 rw[e] at h
 cases h
theorem AAE {d:aB} {id:ByteArray} (h:(partOf d id).isSome=true):d.2.2.1.any (fun p=>eA id p)=true:=by
 unfold partOf at h
 rw[List.find?_isSome] at h
 obtain ⟨p,hp,h⟩:=h
 exact List.any_eq_true.2 ⟨p,hp,h⟩
theorem QM {d:aB} {n:Nat} (h:d.2.2.1≠[]) (hn:n=aK.w):(!(List.map aK.enc d.2.2.1).isEmpty&&fS n (List.map aK.enc d.2.2.1))=true:=by
 subst hn
 rw[Bool.and_eq_true]
 refine ⟨?_,u6 ..⟩
 cases hl:d.2.2.1 with
 | nil=>exact absurd hl h
 | cons a l=>rfl
def IV (a0:aB) (a1:aH) (a2:cX):List T:=[aF true aC a0,aF true aJ a1,aF true aM (6,a2)]
noncomputable def APJ:Env:=Env.of [(118,.pure cJ),(235,.pure PV),(119,.pure kH),(229,.pure jD),(160,.pure gM),(120,.part 2 LK),(26,.pure cC)]
def A5C:FuncId→Hint:=bV 231 [(2,.inv [.val 8 false (.int .i64)])] (fun _=>aX)
theorem A0W:aQ Tryz.prog APJ:=.cons iJ (.cons A8R (.cons BN (.cons rQ (.cons s0 (.cons AHY (.cons iX (.nil _)))))))
def BG2(y3:aB)(y12:List T)(a2:cX):List T:=[T.v (.string y3.1), T.sl false (BF8 y3), T.sl false ((BF2 y3).set (-1).toNat (bO y12 3 [T.v (.string a2.2.1)])), T.sl false (BF5 y3), T.sl false (BF0 y3), T.sl false (BFZ y3)]
def BG6(y3:aB)(s5:Int×PUnit)(y9:List T)(a2:cX):List T:=[T.v (.string y3.1), T.sl false (BF8 y3), T.sl false ((BF2 y3).set (Int.toNat s5.1) (bO y9 3 [T.v (.string a2.2.1)])), T.sl false (BF5 y3), T.sl false (BF0 y3), T.sl false (BFZ y3)]
def ARC(a0:aB)(a1:aH)(a2:cX)(R:T→Prop):Prop:=aI [(true,aM)] (PV [(aF true aM (6,a2))]) fun (y0:aZ)=>aI BFF (cJ [(aF true aM (6,a2)), aF true aM y0]) fun (y1:Bool)=>aD (!y1) (BGI R) (aI BFN (kH (BHO a0 a2)) fun (y2:a8×Bool)=>aD (!y2.2) (BGQ R) (aI [(true,aC)] (LK [aF true aC a0]) fun (y3:aB)=>bN (!(BF2 y3).isEmpty && fS (1+(1+(1+(1+(1+(1+(1+1+(1+(1+(1+(1+(1+1)+(1+(1+1)+1)))))))))))) (BF2 y3)) (a7 (Int×PUnit) (fun X4 s5=>aD (decide (s5.1<(↑(BF2 y3).length:Int))) (aS aK (BF2 y3) s5.1 fun (y6:a8)=>gZ aK (BF2 y3) (Int.toNat s5.1) 0 fun (y7:a8)=>aD (decide (y7.1=a2.1)) (aS aK (BF2 y3) s5.1 fun (y8:a8)=>DE (BF2 y3) (Int.toNat s5.1) fun (y9:List T)=>bN (decide (4≤y9.length)) (aI BFD (cC [T.agg (BG6 y3 s5 y9 a2), aF true aJ a1]) fun (y10:Int)=>aD (!decide (y10=0)) (BGW R y10) (R (T.bU [T.agg (BG6 y3 s5 y9 a2), T.v (.int .i64 0)])))) (BF1 X4 s5)) (aS aK (BF2 y3) (-1) fun (y11:a8)=>DE (BF2 y3) (-1).toNat fun (y12:List T)=>bN (decide (4≤y12.length)) (aI BFD (cC [T.agg (BG2 y3 y12 a2), aF true aJ a1]) fun (y13:Int)=>aD (!decide (y13=0)) (BGW R y13) (R (T.bU [T.agg (BG2 y3 y12 a2), T.v (.int .i64 0)]))))) (0,()))))
theorem ARD ( a0 a1 a2 R):dH bR Tryz.prog APJ A5C 8 83 (IV a0 a1 a2) R=ARC a0 a1 a2 R:=by kernel_rfl
noncomputable def AGN:mY→Option T:=AU 6
theorem AJK (x y:mY) (h:IV x.1 x.2.1 x.2.2=IV y.1 y.2.1 y.2.2):x=y:=kG 6 x y h
noncomputable def AVK:List T→Option (T):=gA (fun (x:aB×aH×cX)=>IV x.1 x.2.1 x.2.2) AGN
theorem AVL (a0:aB) (a1:aH) (a2:cX):AVK (IV a0 a1 a2)=AGN (a0,a1,a2):=dS (A:=(fun (x:aB×aH×cX)=>IV x.1 x.2.1 x.2.2)) AJK (a0,a1,a2)
theorem A92 (h:∀ (a0:aB) (a1:aH) (a2:cX) (r:T),AGN (a0,a1,a2)=some r→(∀ t∈IV a0 a1 a2,Bd t)→ARC a0 a1 a2 (fun y=>y=r)):aN Tryz.prog 83 AVK :=
 b7 (E:=APJ) (Hs:=A5C) A0W aR aU (aL rfl) 8 ⟨_,_,Tryz.func83,rfl⟩ fun x r h1 h2=>by
  rw[ARD]
  exact h x.1 x.2.1 x.2.2 r h1 h2
theorem A73:aN Tryz.prog 83 AVK:=A92 fun d m x r h hb=>by
 clear hb
 obtain ⟨hp,rfl⟩:=rC h
 clear h
 obtain ⟨hc,ho1,ho2⟩:=C5 hp
 have c:=eV hc
 have hk:(1:Int)≤((6,x):aZ).1∧((6,x):aZ).1≤12:=by dsimp only;omega
 have lift:∀ {a:aB×Int},bT d m (6,x)=a→∀ v,v=Sh.enc [(true,aC),(false,.int .i64)] a→v=Sh.enc [(true,aC),(false,.int .i64)] (bT d m (6,x)):=fun h v hv=>by rw[h];exact hv
 unfold ARC BHO BG6 BG2 BGQ BGI BF8 BF5 BGW BF2 BF0 BF1 BFZ BFN BFF BFD BFC
 have z1:PV [aF true aM (6,x)]=some (Sh.enc [(true,aM)] (cZ (6,x))):=(AV9 ..).trans rfl
 refine aG (s:=[(true,aM)]) (y:=cZ (6,x)) z1 ?_
 have z2:cJ [aF true aM (6,x),aF true aM (cZ (6,x))]=some (Sh.enc HV (w9 (6,x) (cZ (6,x)))):=pE ..
 refine aG (s:=HV) (y:=w9 (6,x) (cZ (6,x))) z2 ?_
 refine kQ (fun h=>lift (BC hk h) _ rfl) fun hE=>?_
 have h5:¬ ((6,x):aZ).1=5:=by dsimp only;omega
 refine aG (s:=[(true,aK),(false,.bool)]) (y:=found dB (partOf d (gG (6,x)))) ((pC ..).trans (by unfold kC;dsimp only;rw[c.QE];rfl)) ?_
 have ht:gF d (6,x)=(found dB (partOf d (gG (6,x)))).2:=(oS ..).symm
 refine kQ (fun h=>lift (J9 hk h5 hE rfl (ht.trans h)) _ rfl) fun h=>?_
 have hth:gF d (6,x) = !lM (6,x):=ht.trans h
 have hus:pQ d (6,x)=false:=rfl
 have hso:(partOf d (gG (6,x))).isSome=true:=(oS ..).symm.trans h
 refine aG (s:=[(true,aC)]) (y:=d) ((rT ..).trans (fQ hc)) ⟨QM (AAF hso) rfl,?_⟩
 refine cL (r:=aK) (fun p=>eA (gG (6,x)) p) (nU c.p) (fun X k y hlt hy hp hn=>?_) (fun h0 ha=>absurd (AAE hso) (by rw[ha];exact Bool.false_ne_true))
 rw[show Int.toNat (k:Int)=k from rfl,iL (r:=aK) hlt]
 refine bZ (fun he=>?_) fun he=>hn (by subst hy;exact decide_eq_false he)
 obtain ⟨hidx,_⟩:=hp (by subst hy;exact decide_eq_true he)
 rw[bD (r:=aK) hlt,oK (r:=aK) hlt]
 refine ⟨by rw[Sy.cP];rfl,?_⟩
 have hD:uP d (6,x)=(d.1,d.2.1,d.2.2.1.set k (A30 d.2.2.1[k] (eTo (6,x))),d.2.2.2):=by
  have e:uP d (6,x)=(d.1,d.2.1,atI (eA (gG (6,x))) (fun p=>A30 p (eTo (6,x))) d.2.2.1,d.2.2.2):=rfl
  rw[e,AHM hlt hidx]
 have hs:(List.map aK.enc d.2.2.1).set k (bO (aK.enc d.2.2.1[k]) 3 [T.v (.string x.2.1)])=List.map aK.enc (d.2.2.1.set k (A30 d.2.2.1[k] (eTo (6,x)))):=AI6 (r:=aK) rfl
 rw[hs]
 have z3:=mI (a0:=uP d (6,x)) (a1:=m)
 have hchk:=sP (m:=m) hk h5 hE hth hus
 rw[hD] at z3 hchk
 refine aG (s:=[(false,.int .i64)]) z3 ?_
 exact lI (fun h=>lift (hchk.trans (if_neg h)) _ rfl) fun h=>lift (hchk.trans (if_pos h)) _ rfl
def IU (a0:aB) (a1:aH) (a2:cX):List T:=[aF true aC a0,aF true aJ a1,aF true aM (5,a2)]
noncomputable def API:Env:=Env.of [(118,.pure cJ),(227,.pure PU),(119,.pure kH),(229,.pure jD),(160,.pure gM),(120,.part 2 LK),(26,.pure cC)]
def A5B:FuncId→Hint:=bV 231 [(2,.inv [.val 8 false (.int .i64)])] (fun _=>aX)
theorem A0V:aQ Tryz.prog API:=.cons iJ (.cons A8Q (.cons BN (.cons rQ (.cons s0 (.cons AHY (.cons iX (.nil _)))))))
def BFY(y9:a8)(y11:Int):List T:=[T.v (.string y9.1), T.v (.int .i64 (IntKind.i64.wrap (y11+1))), T.v (.int .i64 y9.2.2.1), T.v (.string y9.2.2.2.1), T.v (.string y9.2.2.2.2.1), T.v (.int .i64 y9.2.2.2.2.2.1), T.sl false (List.map aA.enc y9.2.2.2.2.2.2.1.1), T.sl false (List.map aA.li.enc y9.2.2.2.2.2.2.1.2), T.v (.string y9.2.2.2.2.2.2.2.1), T.v (.int .i64 y9.2.2.2.2.2.2.2.2.1), T.v (.int .i64 y9.2.2.2.2.2.2.2.2.2.1), T.v (.int .i64 y9.2.2.2.2.2.2.2.2.2.2.1.1), T.v (.int .i64 y9.2.2.2.2.2.2.2.2.2.2.1.2.1), T.v (.int .i64 y9.2.2.2.2.2.2.2.2.2.2.1.2.2), T.v (.int .i64 y9.2.2.2.2.2.2.2.2.2.2.2.1.1), T.v (.int .i64 y9.2.2.2.2.2.2.2.2.2.2.2.1.2.1), T.v (.int .i64 y9.2.2.2.2.2.2.2.2.2.2.2.1.2.2), T.v (.int .i64 y9.2.2.2.2.2.2.2.2.2.2.2.2)]
def BHC(y4:aB)(y19:List T)(y15:a8)(y17:Int):List T:=[T.v (.string y4.1), T.sl false (BF8 y4), T.sl false ((BF2 y4).set (-1).toNat (bO y19 0 (BFY y15 y17))), T.sl false (BF5 y4), T.sl false (BF0 y4), T.sl false (BFZ y4)]
def BHI(y4:aB)(s6:Int×PUnit)(y13:List T)(y9:a8)(y11:Int):List T:=[T.v (.string y4.1), T.sl false (BF8 y4), T.sl false ((BF2 y4).set (Int.toNat s6.1) (bO y13 0 (BFY y9 y11))), T.sl false (BF5 y4), T.sl false (BF0 y4), T.sl false (BFZ y4)]
def ARA(a0:aB)(a1:aH)(a2:cX)(R:T→Prop):Prop:=aI [(true,aM)] (PU [(aF true aM (5,a2))]) fun (y0:aZ)=>aI BFF (cJ [(aF true aM (5,a2)), aF true aM y0]) fun (y1:Bool)=>aD (!y1) (BGI R) (aD (!decide (a2.2.2.2.1.2.1=0)) (BGI R) (aI BFN (kH (BHX a0 a2)) fun (y2:a8×Bool)=>aD (!y2.2) (BGQ R) (aI BFN (kH (BHX a0 a2)) fun (y3:a8×Bool)=>aD (!decide (y3.1.2.2.2.1=a2.2.2.2.1.2.2.2.1)) (BGI R) (aI [(true,aC)] (LK [aF true aC a0]) fun (y4:aB)=>bN (!(BF2 y4).isEmpty && fS (1 + (1+(1+(1+(1+(1+(1+1+(1+(1+(1+(1+(1+1)+(1+(1+1)+1)))))))))))) (BF2 y4)) (a7 (Int×PUnit) (fun X5 s6=>aD (decide (s6.1<(↑(BF2 y4).length:Int))) (aS aK (BF2 y4) s6.1 fun (y7:a8)=>gZ aK (BF2 y4) (Int.toNat s6.1) 0 fun (y8:a8)=>aD (decide (y8.1=a2.2.2.2.1.1)) (aI [(true,aK)] (gM [aF true aK a2.2.2.2.1]) fun (y9:a8)=>aS aK (BF2 y4) s6.1 fun (y10:a8)=>gZ BFJ (BF2 y4) (Int.toNat s6.1) 1 fun (y11:Int)=>aS aK (BF2 y4) s6.1 fun (y12:a8)=>DE (BF2 y4) (Int.toNat s6.1) fun (y13:List T)=>bN (decide (18≤y13.length)) (aI BFD (cC [T.agg (BHI y4 s6 y13 y9 y11), aF true aJ a1]) fun (y14:Int)=>aD (!decide (y14=0)) (BGW R y14) (R (T.bU [T.agg (BHI y4 s6 y13 y9 y11), T.v (.int .i64 0)])))) (BF1 X5 s6)) (aI [(true,aK)] (gM [aF true aK a2.2.2.2.1]) fun (y15:a8)=>aS aK (BF2 y4) (-1) fun (y16:a8)=>gZ BFJ (BF2 y4) (-1).toNat 1 fun (y17:Int)=>aS aK (BF2 y4) (-1) fun (y18:a8)=>DE (BF2 y4) (-1).toNat fun (y19:List T)=>bN (decide (18≤y19.length)) (aI BFD (cC [T.agg (BHC y4 y19 y15 y17), aF true aJ a1]) fun (y20:Int)=>aD (!decide (y20=0)) (BGW R y20) (R (T.bU [T.agg (BHC y4 y19 y15 y17), T.v (.int .i64 0)]))))) (0,()))))))
theorem ARB ( a0 a1 a2 R):dH bR Tryz.prog API A5B 8 83 (IU a0 a1 a2) R=ARA a0 a1 a2 R:=by kernel_rfl
noncomputable def AGM:mY→Option T:=AU 5
theorem AJJ (x y:mY) (h:IU x.1 x.2.1 x.2.2=IU y.1 y.2.1 y.2.2):x=y:=kG 5 x y h
noncomputable def AVI:List T→Option (T):=gA (fun (x:aB×aH×cX)=>IU x.1 x.2.1 x.2.2) AGM
theorem AVJ (a0:aB) (a1:aH) (a2:cX):AVI (IU a0 a1 a2)=AGM (a0,a1,a2):=dS (A:=(fun (x:aB×aH×cX)=>IU x.1 x.2.1 x.2.2)) AJJ (a0,a1,a2)
theorem A91 (h:∀ (a0:aB) (a1:aH) (a2:cX) (r:T),AGM (a0,a1,a2)=some r→(∀ t∈IU a0 a1 a2,Bd t)→ARA a0 a1 a2 (fun y=>y=r)):aN Tryz.prog 83 AVI :=
 b7 (E:=API) (Hs:=A5B) A0V aR aU (aL rfl) 8 ⟨_,_,Tryz.func83,rfl⟩ fun x r h1 h2=>by
  rw[ARB]
  exact h x.1 x.2.1 x.2.2 r h1 h2
theorem A72:aN Tryz.prog 83 AVI:=A91 fun d m x r h hb=>by
 clear hb
 obtain ⟨hp,rfl⟩:=rC h
 clear h
 obtain ⟨hc,ho1,ho2⟩:=C5 hp
 have c:=eV hc
 have hk:(1:Int)≤((5,x):aZ).1∧((5,x):aZ).1≤12:=by dsimp only;omega
 have lift:∀ {a:aB×Int},bT d m (5,x)=a→∀ v,v=Sh.enc [(true,aC),(false,.int .i64)] a→v=Sh.enc [(true,aC),(false,.int .i64)] (bT d m (5,x)):=fun h v hv=>by rw[h];exact hv
 unfold ARA BHX BHI BHC BGQ BGI BF8 BF5 BGW BF2 BF0 BFY BF1 BFZ BFN BFJ BFF BFD BFC
 have z1:PU [aF true aM (5,x)]=some (Sh.enc [(true,aM)] (cZ (5,x))):=(AV8 ..).trans rfl
 refine aG (s:=[(true,aM)]) (y:=cZ (5,x)) z1 ?_
 have z2:cJ [aF true aM (5,x),aF true aM (cZ (5,x))]=some (Sh.enc HV (w9 (5,x) (cZ (5,x)))):=pE ..
 refine aG (s:=HV) (y:=w9 (5,x) (cZ (5,x))) z2 ?_
 refine kQ (fun h=>lift (BC hk h) _ rfl) fun hE=>?_
 have hr:¬ (¬ (1≤((5,x):aZ).1∧((5,x):aZ).1≤12)):=fun h=>h hk
 refine lI (fun h=>lift (by unfold bT;rw[if_neg hr,if_pos (.inr ⟨rfl,h⟩)]) _ rfl) fun hrev=>?_
 have hpl:¬ (w9 (5,x) (cZ (5,x))=false∨(((5,x):aZ).1=5∧¬ (cW (5,x)).2.1=0)):=fun h=>h.elim (fun e=>by rw[hE] at e;cases e) fun e=>e.2 hrev
 refine aG (s:=[(true,aK),(false,.bool)]) (y:=found dB (partOf d (cW (5,x)).1)) ((pC ..).trans (by unfold kC;dsimp only;rw[c.QE];rfl)) ?_
 have ht:gF d (5,x)=(found dB (partOf d (cW (5,x)).1)).2:=(oS ..).symm
 have had:¬ (lM (5,x)=true∧gF d (5,x)=true):=fun h=>by cases h.1
 refine kQ (fun h=>lift (by unfold bT;rw[if_neg hr,if_neg hpl,if_neg had,if_pos ⟨rfl,ht.trans h⟩]) _ rfl) fun h=>?_
 have hno:¬ (lM (5,x)=false∧gF d (5,x)=false):=fun e=>by rw[ht,h] at e;cases e.2
 have hso:(partOf d (cW (5,x)).1).isSome=true:=(oS ..).symm.trans h
 refine aG (s:=[(true,aK),(false,.bool)]) (y:=found dB (partOf d (cW (5,x)).1)) ((pC ..).trans (by unfold kC;dsimp only;rw[c.QE];rfl)) ?_
 refine lI (fun h=>lift (by unfold bT;rw[if_neg hr,if_neg hpl,if_neg had,if_neg hno,if_pos ⟨rfl,h⟩]) _ rfl) fun hnode=>?_
 have hnd:¬ (((5,x):aZ).1=5∧¬ j2 (found dB (partOf d (cW (5,x)).1)).1=j2 (cW (5,x))):=fun e=>e.2 hnode
 have hchk:bT d m (5,x)=if gK (uP d (5,x)) m=0 then (uP d (5,x),0) else (kT,gK (uP d (5,x)) m):=by
  have hu:¬ pQ d (5,x)=true:=fun h=>by cases h
  unfold bT
  rw[if_neg hr,if_neg hpl,if_neg had,if_neg hno,if_neg hnd,if_neg hu]
 refine aG (s:=[(true,aC)]) (y:=d) ((rT ..).trans (fQ hc)) ⟨QM (AAF hso) rfl,?_⟩
 refine cL (r:=aK) (fun p=>eA (cW (5,x)).1 p) (nU c.p) (fun X k y hlt hy hp hn=>?_) (fun h0 ha=>absurd (AAE hso) (by rw[ha];exact Bool.false_ne_true))
 rw[show Int.toNat (k:Int)=k from rfl,iL (r:=aK) hlt]
 refine bZ (fun he=>?_) fun he=>hn (by subst hy;exact decide_eq_false he)
 obtain ⟨hidx,_⟩:=hp (by subst hy;exact decide_eq_true he)
 refine aG (s:=[(true,aK)]) (y:=cW (5,x)) ((tD ..).trans (by unfold iE;rw[ho1])) ?_
 rw[bD (r:=aK) hlt]
 refine ⟨aK.enc d.2.2.1[k],(d.2.2.1[k]).2.1,sW.2 (List.getElem?_eq_getElem hlt),by rw[Sy.cP];decide,rfl,?_⟩
 dsimp only
 rw[bD (r:=aK) hlt,oK (r:=aK) hlt]
 refine ⟨by rw[Sy.cP];rfl,?_⟩
 have hD:uP d (5,x)=(d.1,d.2.1,d.2.2.1.set k (A40 (cW (5,x)) d.2.2.1[k]),d.2.2.2):=by
  have e:uP d (5,x)=(d.1,d.2.1,atI (eA (cW (5,x)).1) (A40 (cW (5,x))) d.2.2.1,d.2.2.2):=rfl
  rw[e,AHM hlt hidx]
 generalize hrow:bO (aK.enc d.2.2.1[k]) 0 _=row
 have hs:(List.map aK.enc d.2.2.1).set k row=List.map aK.enc (d.2.2.1.set k (A40 (cW (5,x)) d.2.2.1[k])):=AI6 (r:=aK) (by rw[←hrow,AG1 _ _ (by rw[Sy.cP];rfl)];rfl)
 rw[hs]
 have z3:=mI (a0:=uP d (5,x)) (a1:=m)
 rw[hD] at z3 hchk
 refine aG (s:=[(false,.int .i64)]) z3 ?_
 exact lI (fun h=>lift (hchk.trans (if_neg h)) _ rfl) fun h=>lift (hchk.trans (if_pos h)) _ rfl
end Go.Pv
namespace Go.Pv
open Go Go.Proofs
end Go.Pv
namespace Go.Pv
open Go Go.Proofs
noncomputable def BBV:Env:=Env.of []
def BCF:FuncId→Hint:=fun _=>aX
theorem A0Q:aQ Tryz.prog BBV:=.nil _
def AQ1(a0:aB)(a1:aH)(a2:aZ)(R:T→Prop):Prop:=aD (decide (a2.1=1)) (aD (decide (a2.1=1)) (pW 72) (pW 72)) (aD (decide (a2.1=2)) (aD (decide (a2.1=1)) (pW 72) (pW 72)) (aD (decide (a2.1=3)) (aD (decide (a2.1=3)) (pW 72) (pW 72)) (aD (decide (a2.1=4)) (aD (decide (a2.1=3)) (pW 72) (pW 72)) (aD (decide (a2.1=5)) (pW 72) (aD (decide (a2.1=6)) (pW 72) (aD (decide (a2.1=7)) (aD (decide (a2.1=7)) (pW 72) (pW 72)) (aD (decide (a2.1=8)) (aD (decide (a2.1=7)) (pW 72) (pW 72)) (aD (decide (a2.1=9)) (aD (decide (a2.1=9)) (pW 72) (pW 72)) (aD (decide (a2.1=10)) (aD (decide (a2.1=9)) (pW 72) (pW 72)) (aD (decide (a2.1=11)) (pW 72) (aD (decide (a2.1=12)) (pW 72) (R (T.bU [T.agg [T.v (.string {data:=#[]}),T.sl false [],T.sl false [], T.sl false [],T.sl false [],T.sl false []], T.v (.int .i64 10)])))))))))))))
abbrev AY7:Sh:=[(true,aC),(true,aJ),(true,aM)]
def GD (x:aB×aH×aZ):Option T:=if 1≤x.2.2.1∧x.2.2.1≤12 then none else some (Sh.enc [(true,aC),(false,.int .i64)] (kT,10))
noncomputable def AU8:List T→Option T:=gS AY7 GD
theorem AU9 {a0 a1 a2}:AU8 [aF true aC a0,aF true aJ a1,aF true aM a2]=GD (a0,a1,a2):=bC (s:=AY7) rfl (a0,a1,a2) rfl
theorem A9W:Of3 Tryz.prog 83 AU8 GD (b9 AY7) AQ1:=Z5 (a1:=(true,aC)) (a2:=(true,aJ)) (a3:=(true,aM)) (sp:=GD) (F:=AQ1) (Hs:=BCF) (f:=83) (k:=2) A0Q aR aU (aL rfl) ⟨_,_,Tryz.func83,rfl⟩ rfl fun _ _ _ _=>by kernel_rfl
theorem A7Y:aN Tryz.prog 83 AU8:=A9W fun d m x r h hb=>by
 clear hb
 unfold GD at h
 split at h
 ·cases h
 rename_i hk
 cases h
 have hk:¬ (1≤x.1∧x.1≤12):=hk
 unfold AQ1
 refine bZ (fun h=>absurd (by omega) hk) fun _=>?_
 refine bZ (fun h=>absurd (by omega) hk) fun _=>?_
 refine bZ (fun h=>absurd (by omega) hk) fun _=>?_
 refine bZ (fun h=>absurd (by omega) hk) fun _=>?_
 refine bZ (fun h=>absurd (by omega) hk) fun _=>?_
 refine bZ (fun h=>absurd (by omega) hk) fun _=>?_
 refine bZ (fun h=>absurd (by omega) hk) fun _=>?_
 refine bZ (fun h=>absurd (by omega) hk) fun _=>?_
 refine bZ (fun h=>absurd (by omega) hk) fun _=>?_
 refine bZ (fun h=>absurd (by omega) hk) fun _=>?_
 refine bZ (fun h=>absurd (by omega) hk) fun _=>?_
 refine bZ (fun h=>absurd (by omega) hk) fun _=>?_
 rfl
def H0 (x:aB×aH×aZ):List T:=[aF true aC x.1,aF true aJ x.2.1,aF true aM x.2.2]
noncomputable def DH (x:aB×aH×aZ):Option T:=match okX x.1 x.2.2 with
 | true=>some (Sh.enc [(true,aC),(false,.int .i64)] (bT x.1 x.2.1 x.2.2))
 | false=>none
noncomputable def BR:List T→Option T:=gA H0 DH
theorem U6 (x y:aB×aH×aZ) (h:H0 x=H0 y):x=y:=by
 simp only[H0,List.cons.injEq,and_true] at h
 obtain ⟨h1,h2,h3⟩:=h
 exact Prod.ext (lQ (r:=aC) rfl h1) (Prod.ext (lQ (r:=aJ) rfl h2) (lQ (r:=aM) rfl h3))
theorem AEE (d:aB) (m:aH) (x:aZ):BR [aF true aC d,aF true aJ m,aF true aM x]=DH (d,m,x):=dS U6 (d,m,x)
theorem AUO:aN Tryz.prog 83 BR:=⟨AUN.entry,fun w own args vs r hG ho ha hg=>by
 obtain ⟨⟨d,m,k,x⟩,rfl,h⟩:=SP hg
 unfold DH at h
 dsimp only at h
 clear hg
 by_cases c1:k=1
 ·subst c1;exact AUN.calls w own _ vs r hG ho ha ((AVB d m x).trans h)
 by_cases c2:k=2
 ·subst c2;exact A7Z.calls w own _ vs r hG ho ha ((AVD d m x).trans h)
 by_cases c3:k=3
 ·subst c3;exact A70.calls w own _ vs r hG ho ha ((AVF d m x).trans h)
 by_cases c4:k=4
 ·subst c4;exact A71.calls w own _ vs r hG ho ha ((AVH d m x).trans h)
 by_cases c5:k=5
 ·subst c5;exact A72.calls w own _ vs r hG ho ha ((AVJ d m x).trans h)
 by_cases c6:k=6
 ·subst c6;exact A73.calls w own _ vs r hG ho ha ((AVL d m x).trans h)
 by_cases c7:k=7
 ·subst c7;exact A74.calls w own _ vs r hG ho ha ((AVN d m x).trans h)
 by_cases c8:k=8
 ·subst c8;exact A75.calls w own _ vs r hG ho ha ((AVP d m x).trans h)
 by_cases c9:k=9
 ·subst c9;exact A76.calls w own _ vs r hG ho ha ((AVR d m x).trans h)
 by_cases c10:k=10
 ·subst c10;exact A26.calls w own _ vs r hG ho ha ((AMZ d m x).trans h)
 by_cases c11:k=11
 ·subst c11;exact A27.calls w own _ vs r hG ho ha ((AM0 d m x).trans h)
 by_cases c12:k=12
 ·subst c12;exact A28.calls w own _ vs r hG ho ha ((AM1 d m x).trans h)
 have hn:¬ (1≤k∧k≤12):=by omega
 have hr:some (Sh.enc [(true,aC),(false,.int .i64)] (bT d m (k,x)))=some r:=by
  split at h
  ·exact h
  ·cases h
 refine A7Y.calls w own _ vs r hG ho ha ((AU9 (a0:=d) (a1:=m) (a2:=(k,x))).trans ?_)
 rw[←hr]
 unfold GD bT
 rw[if_neg hn,if_pos hn]⟩
end Go.Pv
namespace Go.Pv
open Go Go.Proofs
structure A1S (b:Nat) (d:aB):Prop where
 n:d.2.1.length≤b
 p:d.2.2.1.length≤b
 s:d.2.2.2.1.length≤b
 k:d.2.2.2.2.1.length≤b
 r:d.2.2.2.2.2.length≤b
theorem BAZ {e:aB} (hP:∀ q∈e.2.2.1,eK q=true) (hK:∀ q∈e.2.2.2.2.1,dY q=true) (n:e.2.1.length≤1000) (p:e.2.2.1.length≤1000) (s:e.2.2.2.1.length≤1000) (k:e.2.2.2.2.1.length≤1000) (r:e.2.2.2.2.2.length≤1000):pU e=true:=by
 unfold pU QE OE
 rw[List.all_eq_true.2 hP,List.all_eq_true.2 hK,decide_eq_true n,decide_eq_true p,decide_eq_true s,decide_eq_true k,decide_eq_true r];rfl
theorem A2H {α:Type} {p:α→Bool} {f:α→α} {l:List α}:(atI p f l).length=l.length:=by unfold atI;exact List.length_modify ..
theorem SC {α:Type} {p:α→Bool} {f:α→α}:∀ {l:List α} {a:α},a∈atI p f l→a∈l∨∃ b∈l,a=f b
 | [],_,h=>by simp[atI] at h
 | z::l,a,h=>by
  unfold atI at h
  rw[List.findIdx_cons] at h
  cases hz:p z with
  | true =>
   rw[hz] at h
   rcases List.mem_cons.1 (show a∈f z::l from h) with e|h
   ·exact .inr ⟨z,List.mem_cons_self,e⟩
   ·exact .inl (List.mem_cons_of_mem _ h)
  | false =>
   rw[hz] at h
   rcases List.mem_cons.1 (show a∈z::atI p f l from h) with e|h
   ·exact .inl (e ▸ List.mem_cons_self)
   ·rcases SC h with h|⟨b,h,e⟩
    ·exact .inl (List.mem_cons_of_mem _ h)
    ·exact .inr ⟨b,List.mem_cons_of_mem _ h,e⟩
theorem A7Q {b:Nat} {d:aB} {x:aZ} (h:A1S b d):A1S (b+1) (uP d x):=by
 obtain ⟨ln,lp,ls,lk,lr⟩:=h
 have i1:∀ {α:Type} {f:α→α→Bool} {l:List α} {a:α},l.length≤b→(nT f l a).length≤b+1:=fun h=>by rw[AWS];omega
 have i2:∀ {α:Type} {f:α→Bool} {l:List α},l.length≤b→(lH f l).length≤b+1:=fun h=>Nat.le_trans WX (by omega)
 have i3:∀ {α:Type} {l:List α},l.length≤b→l.length≤b+1:=fun h=>by omega
 have i4:∀ {α:Type} {p:α→Bool} {f:α→α} {l:List α},l.length≤b→(atI p f l).length≤b+1:=fun h=>by rw[A2H];omega
 unfold uP
 by_cases h1:x.1=1
 ·rw[if_pos h1];exact ⟨i1 ln,i3 lp,i3 ls,i3 lk,i3 lr⟩
 rw[if_neg h1]
 by_cases h2:x.1=2
 ·rw[if_pos h2];exact ⟨i2 ln,i3 lp,i3 ls,i3 lk,i3 lr⟩
 rw[if_neg h2]
 by_cases h3:x.1=3
 ·rw[if_pos h3];exact ⟨i3 ln,i1 lp,i3 ls,i3 lk,i3 lr⟩
 rw[if_neg h3]
 by_cases h4:x.1=4
 ·rw[if_pos h4];exact ⟨i3 ln,i2 lp,i3 ls,i3 lk,i3 lr⟩
 rw[if_neg h4]
 by_cases h5:x.1=5
 ·rw[if_pos h5];exact ⟨i3 ln,i4 lp,i3 ls,i3 lk,i3 lr⟩
 rw[if_neg h5]
 by_cases h6:x.1=6
 ·rw[if_pos h6];exact ⟨i3 ln,i4 lp,i3 ls,i3 lk,i3 lr⟩
 rw[if_neg h6]
 by_cases h7:x.1=7
 ·rw[if_pos h7];exact ⟨i3 ln,i3 lp,i1 ls,i3 lk,i3 lr⟩
 rw[if_neg h7]
 by_cases h8:x.1=8
 ·rw[if_pos h8];exact ⟨i3 ln,i3 lp,i2 ls,i3 lk,i3 lr⟩
 rw[if_neg h8]
 by_cases h9:x.1=9
 ·rw[if_pos h9];exact ⟨i3 ln,i3 lp,i3 ls,i1 lk,i3 lr⟩
 rw[if_neg h9]
 by_cases h10:x.1=10
 ·rw[if_pos h10];exact ⟨i3 ln,i3 lp,i3 ls,i2 lk,i3 lr⟩
 rw[if_neg h10]
 by_cases h11:x.1=11
 ·rw[if_pos h11];exact ⟨i3 ln,i3 lp,i3 ls,i3 lk,i1 lr⟩
 rw[if_neg h11]
 exact ⟨i3 ln,i3 lp,i3 ls,i3 lk,i2 lr⟩
theorem A7R {d:aB} {x:aZ} (hD:QE d=true) (hp:eK (cW x)=true):QE (uP d x)=true:=by
 have a1:∀ q∈d.2.2.1,eK q=true:=fun q hq=>List.all_eq_true.1 hD q hq
 have mk:∀ {e:aB},(∀ q∈e.2.2.1,eK q=true)→QE e=true:=fun h=>List.all_eq_true.2 h
 unfold uP
 by_cases h1:x.1=1
 ·rw[if_pos h1];exact mk a1
 rw[if_neg h1]
 by_cases h2:x.1=2
 ·rw[if_pos h2];exact mk a1
 rw[if_neg h2]
 by_cases h3:x.1=3
 ·rw[if_pos h3];exact mk fun q hq=>(ZH.1 hq).elim (fun e=>by rw[e];exact hp) (a1 q)
 rw[if_neg h3]
 by_cases h4:x.1=4
 ·rw[if_pos h4];exact mk fun q hq=>a1 q (KM hq)
 rw[if_neg h4]
 by_cases h5:x.1=5
 ·rw[if_pos h5];exact mk fun q hq=>(SC hq).elim (a1 q) fun ⟨b,_,e⟩=>by rw[e];exact hp
 rw[if_neg h5]
 by_cases h6:x.1=6
 ·rw[if_pos h6];exact mk fun q hq=>(SC hq).elim (a1 q) fun ⟨b,hb,e⟩=>by rw[e];exact a1 b hb
 rw[if_neg h6]
 by_cases h7:x.1=7
 ·rw[if_pos h7];exact mk a1
 rw[if_neg h7]
 by_cases h8:x.1=8
 ·rw[if_pos h8];exact mk a1
 rw[if_neg h8]
 by_cases h9:x.1=9
 ·rw[if_pos h9];exact mk a1
 rw[if_neg h9]
 by_cases h10:x.1=10
 ·rw[if_pos h10];exact mk a1
 rw[if_neg h10]
 by_cases h11:x.1=11
 ·rw[if_pos h11];exact mk a1
 rw[if_neg h11]
 exact mk a1
theorem A7S {d:aB} {x:aZ} (hK:OE d=true) (hk:dY (gY x)=true):OE (uP d x)=true:=by
 have b1:∀ q∈d.2.2.2.2.1,dY q=true:=fun q hq=>List.all_eq_true.1 hK q hq
 have mk:∀ {e:aB},(∀ q∈e.2.2.2.2.1,dY q=true)→OE e=true:=fun h=>List.all_eq_true.2 h
 unfold uP
 by_cases h1:x.1=1
 ·rw[if_pos h1];exact mk b1
 rw[if_neg h1]
 by_cases h2:x.1=2
 ·rw[if_pos h2];exact mk b1
 rw[if_neg h2]
 by_cases h3:x.1=3
 ·rw[if_pos h3];exact mk b1
 rw[if_neg h3]
 by_cases h4:x.1=4
 ·rw[if_pos h4];exact mk b1
 rw[if_neg h4]
 by_cases h5:x.1=5
 ·rw[if_pos h5];exact mk b1
 rw[if_neg h5]
 by_cases h6:x.1=6
 ·rw[if_pos h6];exact mk b1
 rw[if_neg h6]
 by_cases h7:x.1=7
 ·rw[if_pos h7];exact mk b1
 rw[if_neg h7]
 by_cases h8:x.1=8
 ·rw[if_pos h8];exact mk b1
 rw[if_neg h8]
 by_cases h9:x.1=9
 ·rw[if_pos h9];exact mk fun q hq=>(ZH.1 hq).elim (fun e=>by rw[e];exact hk) (b1 q)
 rw[if_neg h9]
 by_cases h10:x.1=10
 ·rw[if_pos h10];exact mk fun q hq=>b1 q (KM hq)
 rw[if_neg h10]
 by_cases h11:x.1=11
 ·rw[if_pos h11];exact mk b1
 rw[if_neg h11]
 exact mk b1
theorem A4Q {d:aB} (hD:QE d=true) (hK:OE d=true) {b:Nat} (h:A1S b d) (hb:b≤1000):pU d=true:=by
 obtain ⟨ln,lp,ls,lk,lr⟩:=h
 exact BAZ (fun q hq=>List.all_eq_true.1 hD q hq) (fun q hq=>List.all_eq_true.1 hK q hq) (by omega) (by omega) (by omega) (by omega) (by omega)
theorem ATJ {d:aB} {m:aH} {x:aZ} (hc:pU d=true) (hp:eK (cW x)=true) (hk:dY (gY x)=true):BR [aF true aC d,aF true aJ m,aF true aM x]=some (Sh.enc [(true,aC),(false,.int .i64)] (bT d m x)):=by
 rw[AEE]
 unfold DH
 exact fQ (by unfold okX;rw[hc,hp,hk];rfl)
end Go.Pv
namespace Go.Pv
open Go Go.Proofs
noncomputable def mF (m:aH):aB→List aZ→aB×Int
 | d,[]=>(d,0)
 | d,x::l=>if (bT d m x).2=0 then mF m (bT d m x).1 l else (kT,(bT d m x).2)
noncomputable def N4 (d:aB) (m:aH) (o:cG):aB×Int :=
 if pF o.1=false then (kT,6)
 else if (o.2.length:Int)=0 then (kT,3)
 else if 32<(o.2.length:Int) then (kT,4)
 else if ¬ gK d m=0 then (kT,gK d m)
 else mF m d o.2
def okA (d:aB) (o:cG):Bool:=(QE d&&OE d)&&((decide (d.2.1.length≤900)&&decide (d.2.2.1.length≤900))&&(decide (d.2.2.2.1.length≤900)&&(decide (d.2.2.2.2.1.length≤900)&&decide (d.2.2.2.2.2.length≤900))))&&o.2.all fun x=>eK (cW x)&&dY (gY x)
end Go.Pv
namespace Go.Pv
open Go Go.Proofs
noncomputable def A6N:Env:=Env.of [(1000000102,.mark),(82,.pure dV),(26,.pure cC),(83,.pure BR)]
def A61:FuncId→Hint:=bV 37 [(12,.inv [.own 9 6 aC,.val 40 false (.int .i64)])] (fun _=>aX)
theorem AQL:aQ Tryz.prog A6N:=.cons (x:=.mark) trivial (.cons BM (.cons iX (.cons AUO (.nil _))))
def BHB(s5:List aB×Int×PUnit):List (List T):=List.map aC.enc s5.1
def BHG(R:T→Prop):Prop:=aS aC [] (IntKind.i64.wrap ((↑0:Int)-1)) fun (y2:aB)=>R (T.bU [aF true aC y2,T.v (.int .i64 0)])
def ACB(a0:aB)(a1:aH)(a2:cG)(R:T→Prop):Prop:=aI BFF (dV [T.v (.string a2.1)]) fun (y0:Bool)=>aD (!y0) (R (T.bU [BFC, T.v (.int .i64 6)])) (aD (decide ((↑(List.map aM.enc a2.2).length:Int)=0)) (R (T.bU [BFC, T.v (.int .i64 3)])) (aD (decide (32<(↑(List.map aM.enc a2.2).length:Int))) (R (T.bU [BFC, T.v (.int .i64 4)])) (aI BFD (cC [aF true aC a0,aF true aJ a1]) fun (y1:Int)=>aD (!decide (y1=0)) (aD (!decide (y1=0)) (BGW R y1) (BHG R)) (bL aC [(aC.enc a0)] fun (y3:List aB)=>a7 (List aB×Int×PUnit) (fun X4 s5=>aD (decide (s5.2.1<(↑(List.map aM.enc a2.2).length:Int))) (aS aM (List.map aM.enc a2.2) s5.2.1 fun (y6:aZ)=>aS aC (BHB s5) (IntKind.i64.wrap ((↑(BHB s5).length:Int)-1)) fun (y7:aB)=>gZ aC (BHB s5) (IntKind.i64.wrap ((↑(BHB s5).length:Int)-1)).toNat 0 fun (y8:aB)=>aI [(true,aC),(false,Sy.int IntKind.i64)] (BR [aF true aC y8,aF true aJ a1, aF true aM y6]) fun (y9:aB×Int)=>aD (!decide (y9.2=0)) (aD (!decide (y9.2=0)) (R (T.bU [BFC, T.v (.int .i64 y9.2)])) (BHG R)) (bN (decide (((BHB s5).length+1)*136≤140737488355328) && decide ((BHB s5).length+1≤140737488355328)) (bL aC (List.map aC.enc s5.1 ++ [(aC.enc y9.1)]) fun (y11:List aB)=>X4 (y11,IntKind.i64.wrap (s5.2.1+1),())))) (aS aC (BHB s5) (IntKind.i64.wrap ((↑(BHB s5).length:Int)-1)) fun (y12:aB)=>gZ aC (BHB s5) (IntKind.i64.wrap ((↑(BHB s5).length:Int)-1)).toNat 0 fun (y13:aB)=>R (T.bU [aF true aC y13,T.v (.int .i64 0)]))) (y3,0,())))))
abbrev AF1:Sh:=[(true,aC),(true,aJ),(true,bA)]
noncomputable def DI (x:aB×aH×cG):Option T:=match okA x.1 x.2.2 with
 | true=>some (Sh.enc [(true,aC),(false,.int .i64)] (N4 x.1 x.2.1 x.2.2))
 | false=>none
noncomputable def nR:List T→Option T:=gS AF1 DI
theorem AM2 {a0 a1 a2}:nR [aF true aC a0,aF true aJ a1,aF true bA a2]=DI (a0,a1,a2):=bC (s:=AF1) rfl (a0,a1,a2) rfl
theorem A39:Of3 Tryz.prog 18 nR DI (b9 AF1) ACB:=Z5 (a1:=(true,aC)) (a2:=(true,aJ)) (a3:=(true,bA)) (sp:=DI) (F:=ACB) (Hs:=A61) (f:=18) (k:=8) AQL aR aU (aL rfl) ⟨_,_,Tryz.func18,rfl⟩ rfl fun _ _ _ _=>by kernel_rfl
theorem AY6 {r:Sy} {l:List r.den} {i:Int} {k:Nat} {y:r.den} {K:r.den→Prop} (hi:i=(k:Int)) (hy:l[k]? = some y) (hk:K y):aS r (List.map r.enc l) i K :=
 ⟨y,by omega,by rw[hi,Int.toNat_natCast];exact sW.2 hy,hk⟩
theorem AYE {l:List aB} {i k:Nat} {y:aB} {K:aB→Prop} (hi:i=k) (hy:l[k]? = some y) (hk:K y):gZ aC (List.map aC.enc l) i 0 K :=
 ⟨_,y,by rw[hi];exact (sW (r:=aC)).2 hy,Nat.le_refl _,rfl,hk⟩
theorem A29:aN Tryz.prog 18 nR:=A39 fun d m o r h hb=>by
 clear hb
 obtain ⟨hc,rfl⟩:=rC h
 clear h
 unfold okA at hc
 simp only[Bool.and_eq_true,decide_eq_true_eq,List.all_eq_true] at hc
 obtain ⟨⟨⟨hD,hK⟩,⟨l1,l2⟩,l3,l4,l5⟩,hE⟩:=hc
 unfold ACB BHG BHB BGW BFF BFD BFC
 refine aG (s:=[(false,Sy.bool)]) (y:=pF o.1) (PM ..) ?_
 refine kQ (fun hi=>?_) fun hi=>?_
 ·unfold N4;rw[if_pos hi];rfl
 have hi:¬ pF o.1=false:=by rw[hi];decide
 have eO:(List.map aM.enc o.2).length=o.2.length:=List.length_map ..
 rw[eO]
 refine bZ (fun h1=>?_) fun h1=>?_
 ·unfold N4;rw[if_neg hi,if_pos h1];rfl
 refine bZ (fun h2=>?_) fun h2=>?_
 ·unfold N4;rw[if_neg hi,if_neg h1,if_pos h2];rfl
 refine aG (s:=[(false,.int .i64)]) (y:=gK d m) (mI ..) ?_
 have hA:N4 d m o=if ¬ gK d m=0 then (kT,gK d m) else mF m d o.2:=by
  unfold N4;rw[if_neg hi,if_neg h1,if_neg h2]
 rw[hA]
 refine lI (fun h3=>?_) fun h3=>?_
 ·rw[if_pos h3]
  exact lI (fun _=>rfl) fun h=>absurd h h3
 rw[if_neg (fun h=>h h3)]
 clear hA
 refine eJ (r:=aC) rfl (l:=[d]) rfl ?_
 refine bK o.2.length (fun k s=>∃ (L:List aB) (c:aB),s=(L,(k:Int),())∧L.length=k+1∧L[k]? = some c∧mF m d o.2=mF m c (o.2.drop k)∧A1S (900+k) c∧QE c=true∧OE c=true) ⟨[d],d,rfl,rfl,rfl,by rw[List.drop_zero],⟨l1,l2,l3,l4,l5⟩,hD,hK⟩ ?_
 rintro X k s hk ⟨L,c,rfl,hL,hLk,hF,hN,hcD,hcK⟩ hX
 dsimp only
 have hw:IntKind.i64.wrap (((List.map aC.enc L).length:Int)-1)=(k:Int):=by
  rw[List.length_map,hL]
  exact (bB _ (by omega) (by omega)).trans (by omega)
 rw[hw]
 refine bZ (fun hlt=>?_) fun hge=>?_
 ·have hlt:k<o.2.length:=by omega
  rw[bD (r:=aM) hlt]
  refine AY6 (r:=aC) rfl hLk (AYE (Int.toNat_natCast k) hLk ?_)
  obtain ⟨hp,hq⟩:=hE _ (List.getElem_mem hlt)
  refine aG (s:=[(true,aC),(false,.int .i64)]) (y:=bT c m o.2[k]) (ATJ (A4Q hcD hcK hN (by omega)) hp hq) ?_
  have hF2:mF m d o.2=if (bT c m o.2[k]).2=0 then mF m (bT c m o.2[k]).1 (o.2.drop (k+1)) else (kT,(bT c m o.2[k]).2):=by
   rw[hF,List.drop_eq_getElem_cons hlt];rfl
  refine lI (fun he=>?_) fun he=>?_
  ·refine lI (fun _=>?_) fun h=>absurd h he
   rw[hF2,if_neg he];rfl
  ·rw[if_pos he] at hF2
   have hd:=A2U he
   refine ⟨by rw[List.length_map,hL,Bool.and_eq_true];exact ⟨decide_eq_true (by omega),decide_eq_true (by omega)⟩,?_⟩
   refine eJ (r:=aC) rfl (l:=L++[(bT c m o.2[k]).1]) (by rw[List.map_append];rfl) ?_
   refine hX _ hlt ⟨_,(bT c m o.2[k]).1,by rw[show IntKind.i64.wrap ((k:Int)+1)=((k+1:Nat):Int) from bB _ (by omega) (by omega)],by rw[List.length_append,hL];rfl,?_,hF2,?_,?_,?_⟩
   ·rw[List.getElem?_append_right (by omega),hL];simp
   ·rw[hd.eq];exact A7Q hN
   ·rw[hd.eq];exact A7R hcD hp
   ·rw[hd.eq];exact A7S hcK hq
 ·have hk2:o.2.drop k=[]:=List.drop_eq_nil_of_le (by omega)
  refine AY6 (r:=aC) rfl hLk (AYE (Int.toNat_natCast k) hLk ?_)
  rw[hF,hk2];rfl
theorem ALP {d:aB} {m:aH} {o:cG} (h:okA d o=true):nR [aF true aC d,aF true aJ m,aF true bA o]=some (Sh.enc [(true,aC),(false,.int .i64)] (N4 d m o)):=by
 rw[AM2]
 unfold DI
 exact fQ h
end Go.Pv
