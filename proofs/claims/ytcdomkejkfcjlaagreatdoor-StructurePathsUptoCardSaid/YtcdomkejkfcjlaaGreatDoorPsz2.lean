/-
  The reference's vec.Valid and material.
  The reference's part: Check, Mass.
  dag.Order, walked.
  dag.Order of the program, as the reference takes it: again and again the least node that nothing waits for.
  Packages; equality of lists, shapes, parts and packages.
  Chapter 17: the tree's seams and requirements.
  Chapter 17: the tree's parts and packages, walked; Check, walked.
  Chapter 17: the tree's parts and packages in full.
  Chapter 17: the tree's packages in full.
  Chapter 17: Check where the parts and packages are empty ones; StructureLong, walked.
  Chapter 17: structure.Check in full.
  StructureFinds: Part, Node, Seam and Package answer as the reference does.
  StructureBlocks: Block, Path, Parts and Blocks answer as the reference does.
  The reference's Check of chapter 17.
  The reference's dag.Order, packages and Check of chapter 17.
  The tree of a valid design, in plain words: ways up, paths, what two paths share.
  The reference's packages and Check of chapter 17.
  The reference's Check of chapter 17, whole.
  StructureChecks: structure.Check answers as the reference's Check does.
  What a design that chapter 17's Check accepts is known by: its blocks, parts and paths, in plain words.
-/
import Derived.Test.YtcdomkejkfcjlaaGreatDoorPsz1
import Derived.Sort.Walk0
import Derived.Test.YtcdomkejkfcjlaaGreatDoorPskp
import Derived.Test.YtcdomkejkfcjlaaGreatDoorPskj
import Derived.Test.YtcdomkejkfcjlaaGreatDoorPskn
set_option linter.unusedSimpArgs false
set_option linter.unusedVariables false
set_option maxRecDepth 100000
namespace Go.Pv
open Go Go.Proofs
noncomputable def DL:Env:=Env.of []
def NX:FuncId→Hint:=fun _=>aU
theorem UF:aG Tryz.prog DL:=aG.nil _
def D5 (a0:JA) (R:T→Prop):Prop :=
 aC (decide (-524288≤a0.1.1))
 (aC (decide (a0.1.1≤524288))
 (aC (decide (-524288≤a0.1.2.1))
 (aC (decide (a0.1.2.1≤524288))
 (aC (decide (-524288≤a0.1.2.2))
 (aC (decide (a0.1.2.2≤524288))
 (aC (decide (0≤a0.2)) (R (T.v (.bool (decide (a0.2≤23)))))
 (R (T.v (.bool false))))
 (R (T.v (.bool false))))
 (R (T.v (.bool false))))
 (R (T.v (.bool false))))
 (R (T.v (.bool false))))
 (R (T.v (.bool false))))
 (R (T.v (.bool false)))
theorem QZ ( a0 R):bK aV Tryz.prog DL NX 8 120 [aB true qA a0] R=D5 a0 R:=by kernel_rfl
abbrev xE:Sh:=[(true,qA)]
def AL (p:JA):Option T:=some (T.v (.bool (sZ p)))
noncomputable def fM:List T→Option (T):=gS xE AL
theorem SE {a0}:fM [aB true qA a0]=AL (a0):=a7 (s:=xE) rfl (a0) rfl
theorem ADO (h:∀ a0 r,AL (a0)=some r→cD xE (a0)→D5 a0 (fun y=>y=r)):aJ Tryz.prog 120 fM :=
 aR (E:=DL) (Hs:=NX) UF aZ a6 (aN rfl) 8 ⟨_,_,Tryz.func120,rfl⟩ rfl fun x r h1 h2=>by
  let a0:=x
  rw[show Sh.bO xE (a0)=[aB true qA a0] from rfl,QZ]
  exact h a0 r h1 h2
theorem ACE:aJ Tryz.prog 120 fM:=ADO fun p r h hb=>by
 cases h
 unfold D5
 have pb:sZ p=true↔((-524288≤p.1.1∧p.1.1≤524288)∧(-524288≤p.1.2.1∧p.1.2.1≤524288)∧(-524288≤p.1.2.2∧p.1.2.2≤524288))∧0≤p.2∧p.2≤23:=by
  unfold sZ lT AS5
  simp only[Bool.and_eq_true,decide_eq_true_eq]
  by_cases h:p.2<0∨24≤p.2
  ·rw[if_pos h];omega
  ·rw[if_neg h];omega
 have no:¬ (((-524288≤p.1.1∧p.1.1≤524288)∧(-524288≤p.1.2.1∧p.1.2.1≤524288)∧(-524288≤p.1.2.2∧p.1.2.2≤524288))∧0≤p.2∧p.2≤23)→T.v (.bool false)=T.v (.bool (sZ p)):=fun h=>eR (Eq.symm (by rw[Bool.eq_false_iff];exact fun h2=>h (pb.1 h2)))
 refine cH (fun h1=>cH (fun h2=>cH (fun h3=>cH (fun h4=>cH (fun h5=>cH (fun h6=>cH (fun h7=>eR ?_) fun h=>no (by omega)) fun h=>no (by omega)) fun h=>no (by omega)) fun h=>no (by omega)) fun h=>no (by omega)) fun h=>no (by omega)) fun h=>no (by omega)
 rw[Bool.eq_iff_iff,pb,decide_eq_true_eq]
 omega
def jP (l:List Int):Int:=if l.length=0 then 3 else if 16<l.length then 4 else bA (zM l) (List.range l.length)
noncomputable def yN:Env:=Env.of []
def I1:FuncId→Hint:=fun f=>match f == 112 with|true=>⟨fun r=>match r == 6 with|true=>.inv [.val 3 false (.int .i64)]|false=>.none,fun _ _=>none,fun _=>none⟩|false=>aU
theorem P2:aG Tryz.prog yN:=aG.nil _
def yW (a0:List Int) (R:T→Prop):Prop :=
 aC (decide ((↑(List.map (Sy.int IntKind.i64).enc a0).length:Int)=0))
 (R (T.v (.int .i64 3)))
 (aC (decide (16<(↑(List.map (Sy.int IntKind.i64).enc a0).length:Int)))
 (R (T.v (.int .i64 4)))
 (a8 (Int×PUnit)
 (fun (X0:Int×PUnit→Prop) (s1:Int×PUnit) =>
 aC (decide (s1.1<(↑(List.map (Sy.int IntKind.i64).enc a0).length:Int)))
 (aQ (Sy.int IntKind.i64) (List.map (Sy.int IntKind.i64).enc a0) s1.1
 fun (y2:Int) =>
 aC (decide (1≤y2))
 (aC (!decide (y2≤120)) (R (T.v (.int .i64 9)))
 (aC (decide (0<s1.1))
 (aQ (Sy.int IntKind.i64) (List.map (Sy.int IntKind.i64).enc a0) s1.1
 fun (y3:Int) =>
 aQ (Sy.int IntKind.i64) (List.map (Sy.int IntKind.i64).enc a0)
 (IntKind.i64.wrap (s1.1-1)) fun (y4:Int) =>
 aC (decide (y3≤y4)) (R (T.v (.int .i64 11)))
 (X0 (IntKind.i64.wrap (s1.1+1),())))
 (X0 (IntKind.i64.wrap (s1.1+1),()))))
 (R (T.v (.int .i64 9))))
 (R (T.v (.int .i64 0))))
 (0,())))
theorem MI ( a0 R):bK aV Tryz.prog yN I1 8 112 [aB false (Sy.int IntKind.i64).li a0] R=yW a0 R:=by kernel_rfl
abbrev tG:Sh:=[(false,(Sy.int IntKind.i64).li)]
def vV (l:List Int):Option T:=some (T.v (Value.int .i64 (jP l)))
noncomputable def j9:List T→Option (T):=gS tG vV
theorem MY {a0}:j9 [T.sl false (List.map (Sy.int IntKind.i64).enc a0)]=vV (a0):=a7 (s:=tG) rfl (a0) rfl
theorem YS (h:∀ a0 r,vV (a0)=some r→cD tG (a0)→yW a0 (fun y=>y=r)):aJ Tryz.prog 112 j9 :=
 aR (E:=yN) (Hs:=I1) P2 aZ a6 (aN rfl) 8 ⟨_,_,Tryz.func112,rfl⟩ rfl fun x r h1 h2=>by
  let a0:=x
  rw[show Sh.bO tG (a0)=[aB false (Sy.int IntKind.i64).li a0] from rfl,MI]
  exact h a0 r h1 h2
theorem WW:aJ Tryz.prog 112 j9:=YS fun l r h hb=>by
 cases h
 have is:∀ {n:Int},jP l=n→T.v (.int .i64 n)=T.v (.int .i64 (jP l)):=fun h=>by rw[h]
 unfold yW
 refine cH (fun h=>is (by rw[List.length_map] at h;unfold jP;rw[if_pos (by omega)])) fun h5=>?_
 refine cH (fun h=>is (by rw[List.length_map] at h h5;unfold jP;rw[if_neg (by omega),if_pos (by omega)])) fun h6=>?_
 rw[List.length_map] at h5 h6
 have w:jP l=bA (zM l) (List.range l.length):=by unfold jP;rw[if_neg (by omega),if_neg (by omega)]
 refine oJ (r:=.int .i64) (zM l) (by show l.length≤1000000;omega) (fun X k hk hprev hok hbad=>?_) fun h0=>is (w.trans h0)
 have hk:k<l.length:=hk
 have bad:∀ {n:Int},n≠0→zM l k=n→T.v (.int .i64 n)=T.v (.int .i64 (jP l)):=fun hn h=>is (w.trans ((hbad (by rw[h];exact hn)).trans h))
 have hE:zM l k=if ¬ (1≤l[k]∧l[k]≤120) then 9 else if 0<k∧l[k]≤l.getD (k-1) 0 then 11 else 0:=by unfold zM;rw[kW hk]
 dsimp only
 rw[K9 (by omega)]
 refine cH (fun p1=>mV (fun h=>bad (by decide) (by rw[hE,if_pos (by omega)])) fun p2=>?_) fun h=>bad (by decide) (by rw[hE,if_pos (by omega)])
 refine cH (fun p3=>?_) fun p3=>hok (by rw[hE,if_neg (by omega),if_neg (by omega)])
 have k0:0<k:=by omega
 rw[aO (r:=.int .i64) hk,SZ (r:=.int .i64) hk k0 (by show l.length≤1000000;omega)]
 have hg1:l.getD (k-1) 0=l[k-1]'(by omega):=kW (by omega)
 exact cH (fun h=>bad (by decide) (by rw[hE,if_neg (by omega),hg1,if_pos ⟨k0,h⟩])) fun h=>hok (by rw[hE,if_neg (by omega),hg1,if_neg (fun hc=>h hc.2)])
theorem M4 (g:e9):o7 g=if isName g.1=false then 6 else if ¬ (1000≤g.2.1∧g.2.1≤20000∧100≤g.2.2.1∧g.2.2.1≤1500) then 9 else jP g.2.2.2:=rfl
noncomputable def yO:Env:=Env.of [(74,.pure cM),(112,.pure j9)]
def I2:FuncId→Hint:=fun f=>match f == 73 with|true=>⟨fun r=>match r == 2 with|true=>.inv [.val 3 false (.int .i64)]|false=>.none,fun _ _=>none,fun _=>none⟩|false=>aU
theorem P3:aG Tryz.prog yO:=aG.cons (x:=.pure cM) oL (aG.cons (x:=.pure j9) WW (aG.nil _))
def yX (a0:List e9) (R:T→Prop):Prop :=
 a8 (Int×PUnit)
 (fun (X0:Int×PUnit→Prop) (s1:Int×PUnit) =>
 aC (decide (s1.1<(↑(List.map bS.enc a0).length:Int)))
 (aQ bS (List.map bS.enc a0) s1.1 fun (y2:e9) =>
 aI [(false,Sy.bool)] (cM [T.v (.string y2.1)]) fun (y3:Bool) =>
 aC (!y3) (R (T.v (.int .i64 6)))
 (aQ bS (List.map bS.enc a0) s1.1 fun (y4:e9) =>
 aC (decide (1000≤y4.2.1))
 (aC (!decide (y4.2.1≤20000)) (R (T.v (.int .i64 9)))
 (aQ bS (List.map bS.enc a0) s1.1 fun (y5:e9) =>
 aC (decide (100≤y5.2.2.1))
 (aC (!decide (y5.2.2.1≤1500)) (R (T.v (.int .i64 9)))
 (aQ bS (List.map bS.enc a0) s1.1 fun (y6:e9) =>
 aI [(false,Sy.int IntKind.i64)]
 (j9
 [T.sl false (List.map (Sy.int IntKind.i64).enc y6.2.2.2)])
 fun (y7:Int) =>
 aC (!decide (y7=0)) (R (T.v (.int .i64 y7)))
 (aC (decide (0<s1.1))
 (aQ bS (List.map bS.enc a0) s1.1
 fun (y8:e9) =>
 aQ bS (List.map bS.enc a0)
 (IntKind.i64.wrap (s1.1-1)) fun (y9:e9) =>
 aC (gL y8.1 y9.1||decide (y8.1=y9.1))
 (R (T.v (.int .i64 11)))
 (X0 (IntKind.i64.wrap (s1.1+1),())))
 (X0 (IntKind.i64.wrap (s1.1+1),())))))
 (R (T.v (.int .i64 9)))))
 (R (T.v (.int .i64 9)))))
 (R (T.v (.int .i64 0))))
 (0,())
theorem MJ ( a0 R):bK aV Tryz.prog yO I2 8 73 [aB false bS.li a0] R=yX a0 R:=by kernel_rfl
abbrev tH:Sh:=[(false,bS.li)]
def lS (l:List e9):Option T:=match decide (l.length≤1000) with
 | true=>some (T.v (Value.int .i64 (bA (kE (l,[])) (List.range l.length))))
 | false=>none
noncomputable def kA:List T→Option (T):=gS tH lS
theorem MZ {a0}:kA [T.sl false (List.map bS.enc a0)]=lS (a0):=a7 (s:=tH) rfl (a0) rfl
theorem YT (h:∀ a0 r,lS (a0)=some r→cD tH (a0)→yX a0 (fun y=>y=r)):aJ Tryz.prog 73 kA :=
 aR (E:=yO) (Hs:=I2) P3 aZ a6 (aN rfl) 8 ⟨_,_,Tryz.func73,rfl⟩ rfl fun x r h1 h2=>by
  let a0:=x
  rw[show Sh.bO tH (a0)=[aB false bS.li a0] from rfl,MJ]
  exact h a0 r h1 h2
theorem WX:aJ Tryz.prog 73 kA:=YT fun l r h hb=>by
 unfold lS at h
 split at h
 case h_2=>cases h
 rename_i hl
 have hl:l.length≤1000:=of_decide_eq_true hl
 cases h
 unfold yX
 refine oJ (r:=bS) (kE (l,[])) (by show l.length≤1000000;omega) (fun X k hk hprev hok hbad=>?_) fun h0=>by rw[h0]
 have hk:k<l.length:=hk
 have bad:∀ {n:Int},n≠0→kE (l,[]) k=n→T.v (.int .i64 n)=T.v (.int .i64 (bA (kE (l,[])) (List.range l.length))):=fun hn h=>by rw[hbad (by rw[h];exact hn),h]
 have hE:kE (l,[]) k=if ¬ o7 l[k]=0 then o7 l[k] else if 0<k∧OU l[k].1 (l.getD (k-1) eT).1=true then 11 else 0:=by unfold kE;dsimp only;rw[kW hk]
 have hG:=M4 l[k]
 have badG:∀ {n:Int},n≠0→o7 l[k]=n→T.v (.int .i64 n)=T.v (.int .i64 (bA (kE (l,[])) (List.range l.length))):=fun hn h=>bad hn (by rw[hE,if_pos (by rw[h];exact hn),h])
 dsimp only
 rw[K9 (by omega)]
 refine aF (s:=[(false,.bool)]) (y:=isName l[k].1) kV ?_
 refine dJ (fun h=>badG (by decide) (by rw[hG,if_pos h])) fun hn=>?_
 have hn':¬ isName l[k].1=false:=by rw[hn];simp
 rw[aO (r:=bS) hk]
 have r9:¬ (1000≤l[k].2.1∧l[k].2.1≤20000∧100≤l[k].2.2.1∧l[k].2.2.1≤1500)→T.v (.int .i64 9)=T.v (.int .i64 (bA (kE (l,[])) (List.range l.length))):=fun h=>badG (by decide) (by rw[hG,if_neg hn',if_pos h])
 refine cH (fun h1=>mV (fun h=>r9 (by omega)) fun h2=>?_) fun h=>r9 (by omega)
 rw[aO (r:=bS) hk]
 refine cH (fun h3=>mV (fun h=>r9 (by omega)) fun h4=>?_) fun h=>r9 (by omega)
 rw[aO (r:=bS) hk]
 have hG2:o7 l[k]=jP l[k].2.2.2:=by rw[hG,if_neg hn',if_neg (by omega)]
 refine aF (s:=[(false,.int .i64)]) (y:=jP l[k].2.2.2) (MY ..) ?_
 refine mV (fun h=>badG h hG2) fun h5=>?_
 have z:o7 l[k]=0:=hG2.trans h5
 refine cH (fun p3=>?_) fun p3=>hok (by rw[hE,if_neg (fun h=>h z),if_neg (by omega)])
 have k0:0<k:=by omega
 rw[aO (r:=bS) hk,SZ (r:=bS) hk k0 (by show l.length≤1000000;omega)]
 have hg1:l.getD (k-1) eT=l[k-1]'(by omega):=kW (by omega)
 exact GN (fun h=>bad (by decide) (by rw[hE,if_neg (fun h=>h z),hg1,if_pos ⟨k0,h⟩])) fun h=>hok (by rw[hE,if_neg (fun h=>h z),hg1,if_neg (fun hc=>by rw[show OU l[k].1 (l[k-1]'(by omega)).1=false from h] at hc;cases hc.2)])
noncomputable def HR:Env:=Env.of [(74,.pure cM),(73,.pure kA)]
def VF:FuncId→Hint:=fun f=>match f == 30 with|true=>⟨fun r=>match r == 7 with|true=>.inv [.val 4 false (.int .i64)]|false=>.none,fun _ _=>none,fun _=>none⟩|false=>aU
theorem AAI:aG Tryz.prog HR:=aG.cons (x:=.pure cM) oL (aG.cons (x:=.pure kA) WX (aG.nil _))
def IG (a0:aM) (R:T→Prop):Prop :=
 aC (decide (16<(↑(List.map bS.enc a0.1).length:Int)))
 (R (T.v (.int .i64 4)))
 (aC (decide (32<(↑(List.map b6.enc a0.2).length:Int)))
 (R (T.v (.int .i64 4)))
 (aI [(false,Sy.int IntKind.i64)]
 (kA [T.sl false (List.map bS.enc a0.1)]) fun (y0:Int) =>
 aC (!decide (y0=0)) (R (T.v (.int .i64 y0)))
 (a8 (Int×PUnit)
 (fun (X1:Int×PUnit→Prop) (s2:Int×PUnit) =>
 aC (decide (s2.1<(↑(List.map b6.enc a0.2).length:Int)))
 (aQ b6 (List.map b6.enc a0.2) s2.1 fun (y3:fV) =>
 aI [(false,Sy.bool)] (cM [T.v (.string y3.1)])
 fun (y4:Bool) =>
 aC (!y4) (R (T.v (.int .i64 6)))
 (aC (decide (1≤y3.2.1))
 (aC (!decide (y3.2.1≤1000000)) (R (T.v (.int .i64 9)))
 (aC (decide (1≤y3.2.2.1))
 (aC (!decide (y3.2.2.1≤2000)) (R (T.v (.int .i64 9)))
 (aC (decide (100≤y3.2.2.2))
 (aC (!decide (y3.2.2.2≤32768))
 (R (T.v (.int .i64 9)))
 (aC (decide (0<s2.1))
 (aQ b6 (List.map b6.enc a0.2)
 (IntKind.i64.wrap (s2.1-1)) fun (y5:fV) =>
 aC (gL y3.1 y5.1||decide (y3.1=y5.1))
 (R (T.v (.int .i64 11)))
 (X1 (IntKind.i64.wrap (s2.1+1),())))
 (X1 (IntKind.i64.wrap (s2.1+1),()))))
 (R (T.v (.int .i64 9)))))
 (R (T.v (.int .i64 9)))))
 (R (T.v (.int .i64 9)))))
 (R (T.v (.int .i64 0))))
 (0,()))))
theorem UQ ( a0 R):bK aV Tryz.prog HR VF 8 30 [aB true aL a0] R=IG a0 R:=by kernel_rfl
abbrev CI:Sh:=[(true,aL)]
def FE (m:aM):Option T:=some (T.v (Value.int .i64 (uI m)))
noncomputable def qL:List T→Option (T):=gS CI FE
theorem XG {a0}:qL [aB true aL a0]=FE (a0):=a7 (s:=CI) rfl (a0) rfl
theorem AH8 (h:∀ a0 r,FE (a0)=some r→cD CI (a0)→IG a0 (fun y=>y=r)):aJ Tryz.prog 30 qL :=
 aR (E:=HR) (Hs:=VF) AAI aZ a6 (aN rfl) 8 ⟨_,_,Tryz.func30,rfl⟩ rfl fun x r h1 h2=>by
  let a0:=x
  rw[show Sh.bO CI (a0)=[aB true aL a0] from rfl,UQ]
  exact h a0 r h1 h2
theorem AG7:aJ Tryz.prog 30 qL:=AH8 fun m r h hb=>by
 cases h
 have is:∀ {n:Int},uI m=n→T.v (.int .i64 n)=T.v (.int .i64 (uI m)):=fun h=>by rw[h]
 unfold IG
 refine cH (fun h=>is (by rw[List.length_map] at h;unfold uI;rw[if_pos (by omega)])) fun h1=>?_
 refine cH (fun h=>is (by rw[List.length_map] at h;unfold uI;rw[if_pos (by omega)])) fun h2=>?_
 rw[List.length_map] at h1 h2
 refine aF (s:=[(false,.int .i64)]) (y:=bA (kE m) (List.range m.1.length)) ((MZ ..).trans (by unfold lS;rw[decide_eq_true (by omega)];rfl)) ?_
 refine mV (fun h=>is (by unfold uI;rw[if_neg (by omega),if_pos h])) fun h0=>?_
 have w:uI m=bA (AIY m) (List.range m.2.length):=by unfold uI;rw[if_neg (by omega),if_neg (fun h=>h h0)]
 refine oJ (r:=b6) (AIY m) (by show m.2.length≤1000000;omega) (fun X k hk hprev hok hbad=>?_) fun h0=>is (w.trans h0)
 have hk:k<m.2.length:=hk
 have bad:∀ {n:Int},n≠0→AIY m k=n→T.v (.int .i64 n)=T.v (.int .i64 (uI m)):=fun hn h=>is (w.trans ((hbad (by rw[h];exact hn)).trans h))
 have hE:AIY m k=if ¬ TF m.2[k]=0 then TF m.2[k] else if 0<k∧OU m.2[k].1 (m.2.getD (k-1) tS).1=true then 11 else 0:=by unfold AIY;rw[kW hk]
 have badG:∀ {n:Int},n≠0→TF m.2[k]=n→T.v (.int .i64 n)=T.v (.int .i64 (uI m)):=fun hn h=>bad hn (by rw[hE,if_pos (by rw[h];exact hn),h])
 dsimp only
 rw[K9 (by omega)]
 refine aF (s:=[(false,.bool)]) (y:=isName m.2[k].1) kV ?_
 refine dJ (fun h=>badG (by decide) (by unfold TF;rw[if_pos h])) fun hn=>?_
 have hn':¬ isName m.2[k].1=false:=by rw[hn];simp
 have r9:¬ (1≤m.2[k].2.1∧m.2[k].2.1≤1000000∧1≤m.2[k].2.2.1∧m.2[k].2.2.1≤2000∧100≤m.2[k].2.2.2∧m.2[k].2.2.2≤32768)→T.v (.int .i64 9)=T.v (.int .i64 (uI m)):=fun h=>badG (by decide) (by unfold TF;rw[if_neg hn',if_pos h])
 refine cH (fun h1=>mV (fun h=>r9 (by omega)) fun h2=>cH (fun h3=>mV (fun h=>r9 (by omega)) fun h4=>cH (fun h5=>mV (fun h=>r9 (by omega)) fun h6=>?_) fun h=>r9 (by omega)) fun h=>r9 (by omega)) fun h=>r9 (by omega)
 have z:TF m.2[k]=0:=by unfold TF;rw[if_neg hn',if_neg (by omega)]
 refine cH (fun p3=>?_) fun p3=>hok (by rw[hE,if_neg (fun h=>h z),if_neg (by omega)])
 have k0:0<k:=by omega
 rw[SZ (r:=b6) hk k0 (by show m.2.length≤1000000;omega)]
 have hg1:m.2.getD (k-1) tS=m.2[k-1]'(by omega):=kW (by omega)
 exact GN (fun h=>bad (by decide) (by rw[hE,if_neg (fun h=>h z),hg1,if_pos ⟨k0,h⟩])) fun h=>hok (by rw[hE,if_neg (fun h=>h z),hg1,if_neg (fun hc=>by rw[show OU m.2[k].1 (m.2[k-1]'(by omega)).1=false from h] at hc;cases hc.2)])
noncomputable def yR:Env:=Env.of []
def I5:FuncId→Hint:=fun f=>match f == 121 with|true=>⟨fun r=>match r == 2 with|true=>.inv [.val 6 false (.int .i64),.fix 1]|false=>.none,fun _ _=>none,fun _=>none⟩|false=>aU
theorem P6:aG Tryz.prog yR:=aG.nil _
def zA (a0:aM) (a1:ByteArray) (R:T→Prop):Prop :=
 jT
 (aT.rows false
 [[D.p (T.v (.string { data:=#[] })),D.p (T.v (.int .i64 0)),
 D.p (T.v (.int .i64 0)),D.p (T.v (Value.slice none 0 0))]])
 (aT.rows false
 [[D.p (T.v (.string { data:=#[] })),D.p (T.v (.int .i64 0)),
 D.p (T.v (.int .i64 0)),D.p (T.v (Value.slice none 0 0))]])
 (a8 (Int×PUnit×PUnit)
 (fun (X0:Int×PUnit×PUnit→Prop) (s1:Int×PUnit×PUnit) =>
 aC (decide (s1.1<(↑(List.map bS.enc a0.1).length:Int)))
 (aQ bS (List.map bS.enc a0.1) s1.1 fun (y2:e9) =>
 aC (decide (y2.1=a1))
 (aQ bS (List.map bS.enc a0.1) s1.1 fun (y3:e9) =>
 cL
 (fH 1 (List.map (Sy.int IntKind.i64).enc y3.2.2.2)&&true &&
 decide ((List.map (Sy.int IntKind.i64).enc y3.2.2.2).length*8≤140737488355328) &&
 decide ((List.map (Sy.int IntKind.i64).enc y3.2.2.2).length≤140737488355328))
 (R (T.cA [aB true bS y3,T.v (.bool true)])))
 (jT
 (aT.rows false
 [[D.p (T.v (.string { data:=#[] })),
 D.p (T.v (.int .i64 0)),
 D.p (T.v (.int .i64 0)),
 D.p (T.v (Value.slice none 0 0))]])
 (aT.rows false
 [[D.p (T.v (.string { data:=#[] })),
 D.p (T.v (.int .i64 0)),
 D.p (T.v (.int .i64 0)),
 D.p (T.v (Value.slice none 0 0))]])
 (X0 (IntKind.i64.wrap (s1.1+1),(),()))))
 (R
 (T.cA
 [T.agg
 [T.v (.string { data:=#[] }),T.v (.int .i64 0),
 T.v (.int .i64 0),T.sl false []],
 T.v (.bool false)])))
 (0,(),()))
theorem MM ( a0 a1 R):bK aV Tryz.prog yR I5 8 121 [aB true aL a0,aB false Sy.str a1] R=zA a0 a1 R:=by kernel_rfl
abbrev tJ:Sh:=[(true,aL),(false,Sy.str)]
def vX (x:aM×ByteArray):Option T:=OY x.1 (Sh.enc [(true,bS),(false,.bool)] (found eT (eG x.1 x.2)))
noncomputable def cV:List T→Option (T):=gS tJ vX
theorem M0 {a0 a1}:cV [aB true aL a0,T.v (.string a1)]=vX (a0,a1):=a7 (s:=tJ) rfl (a0,a1) rfl
theorem YW (h:∀ a0 a1 r,vX (a0,a1)=some r→cD tJ (a0,a1)→zA a0 a1 (fun y=>y=r)):aJ Tryz.prog 121 cV :=
 aR (E:=yR) (Hs:=I5) P6 aZ a6 (aN rfl) 8 ⟨_,_,Tryz.func121,rfl⟩ rfl fun x r h1 h2=>by
  obtain ⟨a0,a1⟩:=x
  rw[show Sh.bO tJ (a0,a1)=[aB true aL a0,aB false Sy.str a1] from rfl,MM]
  exact h a0 a1 r h1 h2
theorem u6:aJ Tryz.prog 121 cV:=YW fun m n r h hb=>by
 obtain ⟨hok,rfl⟩:=Y3 h
 clear h
 simp only[M8,Bool.and_eq_true,decide_eq_true_eq] at hok
 unfold zA
 rw[cI]
 refine aS m.1.length (fun k s=>s.1=(k:Int)∧(m.1.drop k).find? (fun s=>decide (s.1=n))=eG m n) ⟨rfl,rfl⟩ ?_
 rintro X k ⟨i,u1,u2⟩ hk ⟨rfl,hf⟩ hX
 dsimp only at hf ⊢
 refine cH (fun hlt=>?_) fun hge=>?_
 ·rw[List.length_map] at hlt
  have hlt:k<m.1.length:=by omega
  rw[jB hlt] at hf
  rw[aO (r:=bS) hlt]
  refine cH (fun hc=>?_) fun hc=>?_
  ·rw[if_pos (decide_eq_true hc)] at hf
   rw[aO (r:=bS) hlt]
   have hg:m.1[k].2.2.2.length≤1000:=by
    have:=List.all_eq_true.1 hok.2 _ (List.getElem_mem hlt)
    exact of_decide_eq_true this
   refine ⟨?_,?_⟩
   ·rw[show fH 1 (List.map (Sy.int IntKind.i64).enc m.1[k].2.2.2)=true from JD (.int .i64) _,List.length_map,decide_eq_true (by omega),decide_eq_true (by omega)];rfl
   ·show _=Sh.enc [(true,bS),(false,.bool)] (found eT (eG m n))
    rw[←hf];rfl
  ·rw[if_neg (by simpa using hc)] at hf
   rw[cI]
   exact hX _ hlt ⟨K9 (by omega),hf⟩
 ·rw[List.length_map] at hge
  have:k=m.1.length:=by omega
  subst this
  rw[List.drop_length] at hf
  show _=Sh.enc [(true,bS),(false,.bool)] (found eT (eG m n))
  rw[←hf];rfl
theorem o5 {m:aM} (h:M8 m=true) (n:ByteArray):cV [aB true aL m,T.v (.string n)]=some (Sh.enc [(true,bS),(false,.bool)] (found eT (eG m n))):=(M0 ..).trans (Y4 _ h)
noncomputable def HU:Env:=Env.of []
def VI:FuncId→Hint:=fun f=>match f == 122 with|true=>⟨fun r=>match r == 2 with|true=>.inv [.val 6 false (.int .i64),.fix 1]|false=>.none,fun _ _=>none,fun _=>none⟩|false=>aU
theorem AAL:aG Tryz.prog HU:=aG.nil _
def IK (a0:aM) (a1:ByteArray) (R:T→Prop):Prop :=
 jT
 (aT.rows false
 [[D.p (T.v (.string { data:=#[] })),D.p (T.v (.int .i64 0)),
 D.p (T.v (.int .i64 0)),D.p (T.v (.int .i64 0))]])
 (aT.rows false
 [[D.p (T.v (.string { data:=#[] })),D.p (T.v (.int .i64 0)),
 D.p (T.v (.int .i64 0)),D.p (T.v (.int .i64 0))]])
 (a8 (Int×PUnit×PUnit)
 (fun (X0:Int×PUnit×PUnit→Prop) (s1:Int×PUnit×PUnit) =>
 aC (decide (s1.1<(↑(List.map b6.enc a0.2).length:Int)))
 (aQ b6 (List.map b6.enc a0.2) s1.1 fun (y2:fV) =>
 aC (decide (y2.1=a1))
 (aQ b6 (List.map b6.enc a0.2) s1.1 fun (y3:fV) =>
 R (T.cA [aB true b6 y3,T.v (.bool true)]))
 (jT
 (aT.rows false
 [[D.p (T.v (.string { data:=#[] })),
 D.p (T.v (.int .i64 0)),
 D.p (T.v (.int .i64 0)),
 D.p (T.v (.int .i64 0))]])
 (aT.rows false
 [[D.p (T.v (.string { data:=#[] })),
 D.p (T.v (.int .i64 0)),
 D.p (T.v (.int .i64 0)),
 D.p (T.v (.int .i64 0))]])
 (X0 (IntKind.i64.wrap (s1.1+1),(),()))))
 (R
 (T.cA
 [T.agg
 [T.v (.string { data:=#[] }),T.v (.int .i64 0),
 T.v (.int .i64 0),T.v (.int .i64 0)],
 T.v (.bool false)])))
 (0,(),()))
theorem UT ( a0 a1 R):bK aV Tryz.prog HU VI 8 122 [aB true aL a0,aB false Sy.str a1] R=IK a0 a1 R:=by kernel_rfl
abbrev CL:Sh:=[(true,aL),(false,Sy.str)]
def FH (x:aM×ByteArray):Option T:=some (Sh.enc [(true,b6),(false,.bool)] (found tS (yG x.1 x.2)))
noncomputable def hO:List T→Option (T):=gS CL FH
theorem XL {a0 a1}:hO [aB true aL a0,T.v (.string a1)]=FH (a0,a1):=a7 (s:=CL) rfl (a0,a1) rfl
theorem AIB (h:∀ a0 a1 r,FH (a0,a1)=some r→cD CL (a0,a1)→IK a0 a1 (fun y=>y=r)):aJ Tryz.prog 122 hO :=
 aR (E:=HU) (Hs:=VI) AAL aZ a6 (aN rfl) 8 ⟨_,_,Tryz.func122,rfl⟩ rfl fun x r h1 h2=>by
  obtain ⟨a0,a1⟩:=x
  rw[show Sh.bO CL (a0,a1)=[aB true aL a0,aB false Sy.str a1] from rfl,UT]
  exact h a0 a1 r h1 h2
theorem OA:aJ Tryz.prog 122 hO:=AIB fun m n r h hb=>by
 cases h
 have hl:m.2.length≤2 ^ 47:=hb.1.2.1
 unfold IK
 rw[cI]
 refine aS m.2.length (fun k s=>s.1=(k:Int)∧(m.2.drop k).find? (fun s=>decide (s.1=n))=yG m n) ⟨rfl,rfl⟩ ?_
 rintro X k ⟨i,u1,u2⟩ hk ⟨rfl,hf⟩ hX
 dsimp only at hf ⊢
 refine cH (fun hlt=>?_) fun hge=>?_
 ·rw[List.length_map] at hlt
  have hlt:k<m.2.length:=by omega
  rw[jB hlt] at hf
  rw[aO (r:=b6) hlt]
  refine cH (fun hc=>?_) fun hc=>?_
  ·rw[if_pos (decide_eq_true hc)] at hf
   rw[aO (r:=b6) hlt]
   show _=Sh.enc [(true,b6),(false,.bool)] (found tS (yG m n))
   rw[←hf];rfl
  ·rw[if_neg (by simpa using hc)] at hf
   rw[cI]
   exact hX _ hlt ⟨by show IntKind.i64.wrap ((k:Int)+1)=_;exact aP _ (by omega) (by omega),hf⟩
 ·rw[List.length_map] at hge
  have:k=m.2.length:=by omega
  subst this
  rw[List.drop_length] at hf
  show _=Sh.enc [(true,b6),(false,.bool)] (found tS (yG m n))
  rw[←hf];rfl
theorem F2 (m:aM) (n:ByteArray):hO [aB true aL m,T.v (.string n)]=some (Sh.enc [(true,b6),(false,.bool)] (found tS (yG m n))):=XL ..
noncomputable def uK:Env:=Env.of [(121,.pure cV)]
def FR:FuncId→Hint:=fun f=>match f == 141 with|true=>⟨fun r=>match r == 3 with|true=>.inv [.val 9 false (.int .i64)]|false=>.none,fun _ _=>none,fun _=>none⟩|false=>aU
theorem MF:aG Tryz.prog uK:=aG.cons (x:=.pure cV) u6 (aG.nil _)
def uL (a0:aM) (a1:ByteArray) (a2:Int) (R:T→Prop):Prop :=
 aI [(true,bS),(false,Sy.bool)]
 (cV [aB true aL a0,T.v (.string a1)])
 fun (y0:e9×Bool) =>
 a8 (Int×PUnit)
 (fun (X1:Int×PUnit→Prop) (s2:Int×PUnit) =>
 aC (decide (s2.1<(↑(List.map (Sy.int IntKind.i64).enc y0.1.2.2.2).length:Int)))
 (aQ (Sy.int IntKind.i64) (List.map (Sy.int IntKind.i64).enc y0.1.2.2.2)
 s2.1 fun (y3:Int) =>
 aC (decide (y3=a2)) (R (T.v (.bool true)))
 (X1 (IntKind.i64.wrap (s2.1+1),())))
 (R (T.v (.bool false))))
 (0,())
theorem IJ ( a0 a1 a2 R):bK aV Tryz.prog uK FR 8 141 [aB true aL a0,aB false Sy.str a1,
 aB false (Sy.int IntKind.i64) a2] R=uL a0 a1 a2 R:=by kernel_rfl
abbrev oX:Sh:=[(true,aL),(false,Sy.str),(false,(Sy.int IntKind.i64))]
def tL (x:aM×ByteArray×Int):Option T:=OY x.1 (T.v (.bool (mG x.1 x.2.1 x.2.2)))
noncomputable def fZ:List T→Option (T):=gS oX tL
theorem KQ {a0 a1 a2}:fZ [aB true aL a0,T.v (.string a1),T.v (.int .i64 a2)]=tL (a0,a1,a2):=a7 (s:=oX) rfl (a0,a1,a2) rfl
theorem SQ (h:∀ a0 a1 a2 r,tL (a0,a1,a2)=some r→cD oX (a0,a1,a2)→uL a0 a1 a2 (fun y=>y=r)):aJ Tryz.prog 141 fZ :=
 aR (E:=uK) (Hs:=FR) MF aZ a6 (aN rfl) 8 ⟨_,_,Tryz.func141,rfl⟩ rfl fun x r h1 h2=>by
  obtain ⟨a0,a1,a2⟩:=x
  rw[show Sh.bO oX (a0,a1,a2)=[aB true aL a0,aB false Sy.str a1,
 aB false (Sy.int IntKind.i64) a2] from rfl,IJ]
  exact h a0 a1 a2 r h1 h2
theorem RQ:aJ Tryz.prog 141 fZ:=SQ fun m n t r h hb=>by
 obtain ⟨hok,rfl⟩:=Y3 h
 clear h
 replace hok:M8 m=true:=hok
 have is:∀ {b:Bool},mG m n t=b→T.v (.bool b)=T.v (.bool (mG m n t)):=fun h=>by rw[h]
 unfold uL
 refine aF (s:=[(true,bS),(false,.bool)]) (y:=found eT (eG m n)) (o5 hok n) ?_
 have w:mG m n t=(found eT (eG m n)).1.2.2.2.any fun x=>decide (t=x):=by
  unfold mG
  cases eG m n<;>rfl
 have hlen:(found eT (eG m n)).1.2.2.2.length≤1000:=by
  cases hg:eG m n with
  | none=>exact Nat.zero_le _
  | some g =>
   simp only[M8,Bool.and_eq_true,decide_eq_true_eq] at hok
   exact of_decide_eq_true (List.all_eq_true.1 hok.2 _ (List.mem_of_find?_eq_some hg))
 generalize (found eT (eG m n)).1.2.2.2=g at w hlen ⊢
 refine aS g.length (fun k s=>s=((k:Int),())∧g.any (fun x=>decide (t=x))=(g.drop k).any fun x=>decide (t=x)) ⟨rfl,by rw[List.drop_zero]⟩ ?_
 rintro X k s hk ⟨rfl,hf⟩ hX
 dsimp only
 refine cH (fun hlt=>?_) fun hge=>is ?_
 ·rw[List.length_map] at hlt
  have hlt:k<g.length:=by omega
  rw[List.drop_eq_getElem_cons hlt,List.any_cons] at hf
  rw[aO (r:=.int .i64) hlt]
  refine cH (fun hc=>is ?_) fun hc=>hX _ hlt ⟨by rw[K9 (by omega)],by rw[hf,decide_eq_false (fun e=>hc e.symm),Bool.false_or]⟩
  rw[w,hf,decide_eq_true hc.symm];rfl
 ·rw[List.length_map] at hge
  have:k=g.length:=by omega
  subst this
  rw[w,hf,List.drop_length];rfl
theorem KR {m:aM} (h:M8 m=true) (n:ByteArray) (t:Int):fZ [aB true aL m,T.v (.string n),T.v (Value.int .i64 t)]=some (Sh.enc [(false,.bool)] (mG m n t)):=(KQ ..).trans (Y4 _ h)
end Go.Pv
namespace Go.Pv
open Go Go.Proofs
def AU (s:ByteArray):Bool:=decide (s.size≤1099511627776)
theorem KY {s:ByteArray} (h:AU s=true):cN [T.v (.string s)]=some (Sh.enc AV (iD s)):=by
 rw[XC];unfold rE;rw[show decide (s.size≤1099511627776)=true from h]
def AOU (p:bI):Bool:=decide (1≤aY p)&&decide (aY p≤4)
def E0 {α:Type} (p:bI) (r:α):Option α:=match AOU p with
 | true=>some r
 | false=>none
theorem OW {α:Type} {p:bI} {t r:α} (h:E0 p t=some r):(aY p=1∨aY p=2∨aY p=3∨aY p=4)∧r=t:=by
 unfold E0 at h;split at h
 ·rename_i hc
  simp only[AOU,Bool.and_eq_true,decide_eq_true_eq] at hc
  cases h;exact ⟨by omega,rfl⟩
 ·cases h
theorem OX {α:Type} {p:bI} (t:α) (h:aY p=1∨aY p=2∨aY p=3∨aY p=4):E0 p t=some t:=by
 unfold E0;rw[show AOU p=true by simp only[AOU,Bool.and_eq_true,decide_eq_true_eq];omega]
theorem AT2 {α β:Type} (a:List α) (b:List β):(0<a.length+b.length)↔(¬ a=[]∨¬ b=[]):=by cases a<;>cases b<;>simp<;>omega
noncomputable def DK:Env:=Env.of []
def NW:FuncId→Hint:=fun _=>aU
theorem UE:aG Tryz.prog DK:=aG.nil _
def D4 (a0:bI) (R:T→Prop):Prop :=
 aC (!decide (a0.2.2.2.2.2.1=0))
 (aC (!decide (a0.2.2.2.2.2.2.2.1 = { data:=#[] }))
 (aC (!decide (a0.2.2.2.2.2.2.2.2.2.1=0))
 (aC (decide (a0.2.2.1=1)) (R (T.v (.bool true)))
 (aC (decide (a0.2.2.1=4)) (R (T.v (.bool true)))
 (R (T.v (.bool true)))))
 (aC (decide (a0.2.2.1=1)) (R (T.v (.bool true)))
 (aC (decide (a0.2.2.1=4)) (R (T.v (.bool true)))
 (R (T.v (.bool true))))))
 (aC (!decide (a0.2.2.2.2.2.2.2.2.2.1=0))
 (aC (decide (a0.2.2.1=1))
 (aC (!decide (a0.2.2.2.2.2.2.2.2.1=0)) (R (T.v (.bool true)))
 (R (T.v (.bool true))))
 (aC (decide (a0.2.2.1=4)) (R (T.v (.bool true)))
 (R (T.v (.bool true)))))
 (aC (decide (a0.2.2.1=1))
 (aC (!decide (a0.2.2.2.2.2.2.2.2.1=0)) (R (T.v (.bool true)))
 (R
 (T.v
 (Value.bool
 !(decide (a0.2.2.2.2.2.2.2.2.2.2.1.1=0) &&
 (decide (a0.2.2.2.2.2.2.2.2.2.2.1.2.1=0) &&
 (decide (a0.2.2.2.2.2.2.2.2.2.2.1.2.2=0)&&true)))))))
 (aC (decide (a0.2.2.1=4)) (R (T.v (.bool true)))
 (R (T.v (.bool true)))))))
 (aC (decide ((↑(List.map aA.enc a0.2.2.2.2.2.2.1.1).length:Int)=0))
 (aC (!decide (a0.2.2.2.2.2.2.2.1 = { data:=#[] }))
 (aC (!decide (a0.2.2.2.2.2.2.2.2.2.1=0))
 (aC (decide (a0.2.2.1=1)) (R (T.v (.bool true)))
 (aC (decide (a0.2.2.1=4))
 (aC
 (!decide ((↑(List.map aA.li.enc a0.2.2.2.2.2.2.1.2).length:Int)=0))
 (R (T.v (.bool true))) (R (T.v (.bool true))))
 (aC
 (!decide ((↑(List.map aA.li.enc a0.2.2.2.2.2.2.1.2).length:Int)=0))
 (R (T.v (.bool true))) (R (T.v (.bool true))))))
 (aC (decide (a0.2.2.1=1)) (R (T.v (.bool true)))
 (aC (decide (a0.2.2.1=4))
 (aC
 (!decide ((↑(List.map aA.li.enc a0.2.2.2.2.2.2.1.2).length:Int)=0))
 (R (T.v (.bool true))) (R (T.v (.bool true))))
 (aC
 (!decide ((↑(List.map aA.li.enc a0.2.2.2.2.2.2.1.2).length:Int)=0))
 (R (T.v (.bool true)))
 (R
 (T.v
 (Value.bool
 !(decide (a0.2.2.2.2.2.2.2.2.2.2.1.1=0) &&
 (decide (a0.2.2.2.2.2.2.2.2.2.2.1.2.1=0) &&
 (decide (a0.2.2.2.2.2.2.2.2.2.2.1.2.2=0)&&true))))))))))
 (aC (!decide (a0.2.2.2.2.2.2.2.2.2.1=0))
 (aC (decide (a0.2.2.1=1))
 (aC (!decide (a0.2.2.2.2.2.2.2.2.1=0)) (R (T.v (.bool true)))
 (R (T.v (.bool true))))
 (aC (decide (a0.2.2.1=4))
 (aC
 (!decide ((↑(List.map aA.li.enc a0.2.2.2.2.2.2.1.2).length:Int)=0))
 (R (T.v (.bool true)))
 (aC (!decide (a0.2.2.2.2.2.2.2.2.1=0)) (R (T.v (.bool true)))
 (R (T.v (.bool !decide (a0.2.2.2.2.1 = { data:=#[] }))))))
 (aC
 (!decide ((↑(List.map aA.li.enc a0.2.2.2.2.2.2.1.2).length:Int)=0))
 (R (T.v (.bool true))) (R (T.v (.bool true))))))
 (aC (decide (a0.2.2.1=1))
 (aC (!decide (a0.2.2.2.2.2.2.2.2.1=0)) (R (T.v (.bool true)))
 (R
 (T.v
 (Value.bool
 !(decide (a0.2.2.2.2.2.2.2.2.2.2.1.1=0) &&
 (decide (a0.2.2.2.2.2.2.2.2.2.2.1.2.1=0) &&
 (decide (a0.2.2.2.2.2.2.2.2.2.2.1.2.2=0)&&true)))))))
 (aC (decide (a0.2.2.1=4))
 (aC
 (!decide ((↑(List.map aA.li.enc a0.2.2.2.2.2.2.1.2).length:Int)=0))
 (R (T.v (.bool true)))
 (aC (!decide (a0.2.2.2.2.2.2.2.2.1=0)) (R (T.v (.bool true)))
 (R (T.v (.bool !decide (a0.2.2.2.2.1 = { data:=#[] }))))))
 (aC
 (!decide ((↑(List.map aA.li.enc a0.2.2.2.2.2.2.1.2).length:Int)=0))
 (R (T.v (.bool true)))
 (R
 (T.v
 (Value.bool
 !(decide (a0.2.2.2.2.2.2.2.2.2.2.1.1=0) &&
 (decide (a0.2.2.2.2.2.2.2.2.2.2.1.2.1=0) &&
 (decide (a0.2.2.2.2.2.2.2.2.2.2.1.2.2=0)&&true)))))))))))
 (aC (!decide (a0.2.2.2.2.2.2.2.1 = { data:=#[] }))
 (aC (!decide (a0.2.2.2.2.2.2.2.2.2.1=0))
 (aC (decide (a0.2.2.1=1)) (R (T.v (.bool true)))
 (aC (decide (a0.2.2.1=4)) (R (T.v (.bool true)))
 (R (T.v (.bool true)))))
 (aC (decide (a0.2.2.1=1)) (R (T.v (.bool true)))
 (aC (decide (a0.2.2.1=4)) (R (T.v (.bool true)))
 (R (T.v (.bool true))))))
 (aC (!decide (a0.2.2.2.2.2.2.2.2.2.1=0))
 (aC (decide (a0.2.2.1=1))
 (aC (!decide (a0.2.2.2.2.2.2.2.2.1=0)) (R (T.v (.bool true)))
 (R (T.v (.bool true))))
 (aC (decide (a0.2.2.1=4)) (R (T.v (.bool true)))
 (R (T.v (.bool true)))))
 (aC (decide (a0.2.2.1=1))
 (aC (!decide (a0.2.2.2.2.2.2.2.2.1=0)) (R (T.v (.bool true)))
 (R
 (T.v
 (Value.bool
 !(decide (a0.2.2.2.2.2.2.2.2.2.2.1.1=0) &&
 (decide (a0.2.2.2.2.2.2.2.2.2.2.1.2.1=0) &&
 (decide (a0.2.2.2.2.2.2.2.2.2.2.1.2.2=0)&&true)))))))
 (aC (decide (a0.2.2.1=4)) (R (T.v (.bool true)))
 (R (T.v (.bool true))))))))
theorem QY ( a0 R):bK aV Tryz.prog DK NW 8 116 [aB true bB a0] R=D4 a0 R:=by kernel_rfl
abbrev xD:Sh:=[(true,bB)]
def AK (p:bI):Option T:=E0 p (T.v (.bool (AN p)))
noncomputable def kD:List T→Option (T):=gS xD AK
theorem SC {a0}:kD [aB true bB a0]=AK (a0):=a7 (s:=xD) rfl (a0) rfl
theorem ADN (h:∀ a0 r,AK (a0)=some r→cD xD (a0)→D4 a0 (fun y=>y=r)):aJ Tryz.prog 116 kD :=
 aR (E:=DK) (Hs:=NW) UE aZ a6 (aN rfl) 8 ⟨_,_,Tryz.func116,rfl⟩ rfl fun x r h1 h2=>by
  let a0:=x
  rw[show Sh.bO xD (a0)=[aB true bB a0] from rfl,QY]
  exact h a0 r h1 h2
theorem ACD:aJ Tryz.prog 116 kD:=ADN fun p r h hb=>by
 obtain ⟨hk,rfl⟩:=OW h
 clear h hb
 unfold D4
 simp only[List.length_map,Bool.and_true]
 repeat' first
  | refine mV (fun h=>?_) (fun h=>?_)
  | refine cH (fun h=>?_) (fun h=>?_)
 all_goals (refine eR ?_;unfold AN ADW AQW ALA aY iO eM MO jW gZ zD j0)
 all_goals (replace hk:p.2.2.1=1∨p.2.2.1=2∨p.2.2.1=3∨p.2.2.1=4:=hk;rcases hk with k|k|k|k)
 all_goals (try (exfalso;omega))
 all_goals (simp_all[List.length_pos_iff,AT2])
 all_goals (try omega)
noncomputable def C9:Env:=Env.of [(121,.pure cV),(122,.pure hO),(141,.pure fZ)]
def NL:FuncId→Hint:=fun _=>aU
theorem T3:aG Tryz.prog C9:=aG.cons (x:=.pure cV) u6 (aG.cons (x:=.pure hO) OA (aG.cons (x:=.pure fZ) RQ (aG.nil _)))
def DT (a0:bI) (a1:aM) (R:T→Prop):Prop :=
 aC (decide (a0.2.2.1=4)) (R (T.v (.bool true)))
 (aI [(true,bS),(false,Sy.bool)]
 (cV [aB true aL a1,T.v (.string a0.2.2.2.2.1)])
 fun (y0:e9×Bool) =>
 aC (!y0.2) (R (T.v (.bool false)))
 (aC (decide (y0.1.2.1<1000)) (R (T.v (.bool false)))
 (aC (decide (20000<y0.1.2.1)) (R (T.v (.bool false)))
 (aC (decide (a0.2.2.1=1))
 (aC (decide (1≤a0.2.2.2.2.2.1))
 (aC (decide (a0.2.2.2.2.2.1≤120))
 (aI [(false,Sy.bool)]
 (fZ
 [aB true aL a1,T.v (.string a0.2.2.2.2.1),
 T.v (.int .i64 a0.2.2.2.2.2.1)])
 fun (y1:Bool)=>R (T.v (.bool y1)))
 (R (T.v (.bool false))))
 (R (T.v (.bool false))))
 (aI [(true,b6),(false,Sy.bool)]
 (hO
 [aB true aL a1,T.v (.string a0.2.2.2.2.2.2.2.1)])
 fun (y2:fV×Bool) =>
 aC y2.2
 (aC (decide (1≤y2.1.2.1))
 (aC (decide (y2.1.2.1≤1000000))
 (aC (decide (1≤y2.1.2.2.1))
 (R (T.v (.bool (decide (y2.1.2.2.1≤2000)))))
 (R (T.v (.bool false))))
 (R (T.v (.bool false))))
 (R (T.v (.bool false))))
 (R (T.v (.bool false))))))))
theorem QK ( a0 a1 R):bK aV Tryz.prog C9 NL 8 117 [aB true bB a0,aB true aL a1] R=DT a0 a1 R:=by kernel_rfl
abbrev wZ:Sh:=[(true,bB),(true,aL)]
def nX (x:bI×aM):Option T:=match M8 x.2 with
 | true=>E0 x.1 (T.v (.bool (lY x.1 x.2)))
 | false=>none
noncomputable def kB:List T→Option (T):=gS wZ nX
theorem R1 {a0 a1}:kB [aB true bB a0,aB true aL a1]=nX (a0,a1):=a7 (s:=wZ) rfl (a0,a1) rfl
theorem ADC (h:∀ a0 a1 r,nX (a0,a1)=some r→cD wZ (a0,a1)→DT a0 a1 (fun y=>y=r)):aJ Tryz.prog 117 kB :=
 aR (E:=C9) (Hs:=NL) T3 aZ a6 (aN rfl) 8 ⟨_,_,Tryz.func117,rfl⟩ rfl fun x r h1 h2=>by
  obtain ⟨a0,a1⟩:=x
  rw[show Sh.bO wZ (a0,a1)=[aB true bB a0,aB true aL a1] from rfl,QK]
  exact h a0 a1 r h1 h2
theorem AB4:aJ Tryz.prog 117 kB:=ADC fun p m r h hb=>by
 unfold nX at h
 split at h
 case h_2=>cases h
 rename_i hok
 replace hok:M8 m=true:=hok
 obtain ⟨hk,rfl⟩:=OW h
 clear h hb
 have is:∀ {n:Bool},lY p m=n→T.v (.bool n)=T.v (.bool (lY p m)):=fun h=>by rw[h]
 unfold DT
 refine cH (fun h=>is (by unfold lY;rw[if_pos h])) fun k4=>?_
 refine aF (s:=[(true,bS),(false,.bool)]) (o5 hok _) ?_
 cases hg:eG m (j0 p) with
 | none =>
  show aC true _ _
  rw[dF];exact is (by unfold lY;rw[if_neg k4,hg])
 | some g =>
  show aC false _ _
  rw[dE]
  dsimp only[found]
  have w0:lY p m=(decide (1000≤g.2.1)&&decide (g.2.1≤20000)&&(if aY p=1 then decide (1≤iO p)&&decide (iO p≤120)&&mG m (j0 p) (iO p) else ZI m (MO p))):=by unfold lY;rw[if_neg k4,hg]
  refine cH (fun h=>is (by rw[w0,decide_eq_false (show ¬ 1000≤g.2.1 by omega)];rfl)) fun d1=>?_
  refine cH (fun h=>is (by rw[w0,decide_eq_false (show ¬ g.2.1≤20000 by omega)];simp)) fun d2=>?_
  rw[decide_eq_true (show 1000≤g.2.1 by omega),decide_eq_true (show g.2.1≤20000 by omega)] at w0
  refine cH (fun k1=>?_) fun k1=>?_
  ·rw[if_pos k1] at w0
   refine cH (fun h1=>cH (fun h2=>?_) fun h2=>is ?_) fun h1=>is ?_
   ·refine aF (s:=[(false,.bool)]) (y:=mG m (j0 p) (iO p)) (KR hok _ _) (is ?_)
    rw[w0,decide_eq_true h1,decide_eq_true h2];rfl
   ·rw[w0,decide_eq_true h1,decide_eq_false h2];rfl
   ·rw[w0,decide_eq_false h1];rfl
  ·rw[if_neg k1] at w0
   refine aF (s:=[(true,b6),(false,.bool)]) (F2 m _) ?_
   cases hs:yG m (MO p) with
   | none =>
    show aC false _ _
    rw[dE];exact is (by rw[w0];unfold ZI;rw[hs];rfl)
   | some s =>
    show aC true _ _
    rw[dF]
    dsimp only[found]
    have w2:lY p m=(decide (1≤s.2.1)&&decide (s.2.1≤1000000)&&(decide (1≤s.2.2.1)&&decide (s.2.2.1≤2000))):=by rw[w0];unfold ZI;rw[hs];rfl
    refine cH (fun h1=>cH (fun h2=>cH (fun h3=>is ?_) fun h3=>is ?_) fun h2=>is ?_) fun h1=>is ?_
    ·rw[w2,decide_eq_true h1,decide_eq_true h2,decide_eq_true h3];rfl
    ·rw[w2,decide_eq_true h1,decide_eq_true h2,decide_eq_false h3];rfl
    ·rw[w2,decide_eq_true h1,decide_eq_false h2];rfl
    ·rw[w2,decide_eq_false h1];rfl
noncomputable def PV:Env:=Env.of []
def AEC:FuncId→Hint:=fun _=>aU
theorem AFW:aG Tryz.prog PV:=aG.nil _
def QH (a0:AF6) (R:T→Prop):Prop :=
 aC (decide (a0.1 < -524288)) (R (T.v (.bool true)))
 (aC (decide (524288<a0.1)) (R (T.v (.bool true)))
 (aC (decide (a0.2.1 < -524288)) (R (T.v (.bool true)))
 (aC (decide (524288<a0.2.1)) (R (T.v (.bool true)))
 (aC (decide (a0.2.2 < -524288)) (R (T.v (.bool true)))
 (R (T.v (.bool (decide (524288<a0.2.2)))))))))
theorem AA0 ( a0 R):bK aV Tryz.prog PV AEC 8 119 [aB true Z1 a0] R=QH a0 R:=by kernel_rfl
abbrev G9:Sh:=[(true,Z1)]
def LY (v:AF6):Option T:=some (T.v (.bool (!lT v)))
noncomputable def rU:List T→Option (T):=gS G9 LY
theorem ACO {a0}:rU [aB true Z1 a0]=LY (a0):=a7 (s:=G9) rfl (a0) rfl
theorem ALT (h:∀ a0 r,LY (a0)=some r→cD G9 (a0)→QH a0 (fun y=>y=r)):aJ Tryz.prog 119 rU :=
 aR (E:=PV) (Hs:=AEC) AFW aZ a6 (aN rfl) 8 ⟨_,_,Tryz.func119,rfl⟩ rfl fun x r h1 h2=>by
  let a0:=x
  rw[show Sh.bO G9 (a0)=[aB true Z1 a0] from rfl,AA0]
  exact h a0 r h1 h2
theorem AKK:aJ Tryz.prog 119 rU:=ALT fun v r h hb=>by
 cases h
 unfold QH
 have pb:lT v=true↔(-524288≤v.1∧v.1≤524288)∧(-524288≤v.2.1∧v.2.1≤524288)∧(-524288≤v.2.2∧v.2.2≤524288):=by
  unfold lT
  simp only[Bool.and_eq_true,decide_eq_true_eq]
  omega
 have no:¬ ((-524288≤v.1∧v.1≤524288)∧(-524288≤v.2.1∧v.2.1≤524288)∧(-524288≤v.2.2∧v.2.2≤524288))→T.v (.bool true)=T.v (.bool (!lT v)):=fun h=>eR (by
  rw[show lT v=false by rw[Bool.eq_false_iff];exact fun h2=>h (pb.1 h2)];rfl)
 refine cH (fun h=>no (by omega)) fun h1=>cH (fun h=>no (by omega)) fun h2=>cH (fun h=>no (by omega)) fun h3=>cH (fun h=>no (by omega)) fun h4=>cH (fun h=>no (by omega)) fun h5=>eR ?_
 rw[Bool.eq_iff_iff,Bool.not_eq_true',←Bool.not_eq_true,pb,decide_eq_true_eq]
 omega
def AQ6 (p:bI) (m:aM):Bool:=M8 m&&(AU p.1&&AU (dC p))
def E1 {α:Type} (p:bI) (m:aM) (r:α):Option α:=match AQ6 p m with
 | true=>some r
 | false=>none
theorem OZ {α:Type} {p:bI} {m:aM} {t r:α} (h:E1 p m t=some r):M8 m=true∧AU p.1=true∧AU (dC p)=true∧r=t:=by
 unfold E1 at h;split at h
 ·rename_i hc
  simp only[AQ6,Bool.and_eq_true] at hc
  cases h;exact ⟨hc.1,hc.2.1,hc.2.2,rfl⟩
 ·cases h
theorem O0 {α:Type} {p:bI} {m:aM} (t:α) (h:M8 m=true) (h1:AU p.1=true) (h2:AU (dC p)=true):E1 p m t=some t:=by
 unfold E1 AQ6;rw[h,h1,h2];rfl
noncomputable def H0:Env:=Env.of [(79,.pure cN),(116,.pure kD),(117,.pure kB),(118,.pure gC),(119,.pure rU),(120,.pure fM)]
def VO:FuncId→Hint:=fun _=>aU
theorem AAR:aG Tryz.prog H0:=aG.cons (x:=.pure cN) wI (aG.cons (x:=.pure kD) ACD (aG.cons (x:=.pure kB) AB4 (aG.cons (x:=.pure gC) OD (aG.cons (x:=.pure rU) AKK (aG.cons (x:=.pure fM) ACE (aG.nil _))))))
def IT (a0:bI) (a1:aM) (R:T→Prop):Prop :=
 aI [(false,Sy.bool)] (cN [T.v (.string a0.1)]) fun (y0:Bool) =>
 aC (!y0) (R (T.v (.int .i64 6)))
 (aI [(false,Sy.bool)] (cN [T.v (.string a0.2.2.2.1)])
 fun (y1:Bool) =>
 aC (!y1) (R (T.v (.int .i64 6)))
 (aC (decide (a0.2.1<1)) (R (T.v (.int .i64 9)))
 (aC (decide (1000<a0.2.1)) (R (T.v (.int .i64 9)))
 (aC (decide (a0.2.2.1<1)) (R (T.v (.int .i64 10)))
 (aC (decide (4<a0.2.2.1)) (R (T.v (.int .i64 10)))
 (aI [(false,Sy.bool)] (kD [aB true bB a0])
 fun (y2:Bool) =>
 aC y2 (R (T.v (.int .i64 2)))
 (aI [(false,Sy.bool)]
 (kB [aB true bB a0,aB true aL a1])
 fun (y3:Bool) =>
 aC (!y3) (R (T.v (.int .i64 23)))
 (aC (decide (a0.2.2.1=1))
 (aI [(false,Sy.int IntKind.i64)]
 (gC [aB true eZ a0.2.2.2.2.2.2.1])
 fun (y4:Int) =>
 aC (!decide (y4=0)) (R (T.v (.int .i64 y4)))
 (aI [(false,Sy.bool)]
 (fM
 [aB true qA a0.2.2.2.2.2.2.2.2.2.2.2])
 fun (y5:Bool) =>
 aC (!y5) (R (T.v (.int .i64 9)))
 (R (T.v (.int .i64 0)))))
 (aC (decide (a0.2.2.1=4))
 (aC (decide (a0.2.2.2.2.2.2.2.2.2.1<1))
 (R (T.v (.int .i64 9)))
 (aC (decide (1099511627776<a0.2.2.2.2.2.2.2.2.2.1))
 (R (T.v (.int .i64 9)))
 (aI [(false,Sy.bool)]
 (rU
 [aB true Z1 a0.2.2.2.2.2.2.2.2.2.2.1])
 fun (y6:Bool) =>
 aC y6 (R (T.v (.int .i64 9)))
 (aI [(false,Sy.bool)]
 (fM
 [aB true qA a0.2.2.2.2.2.2.2.2.2.2.2])
 fun (y7:Bool) =>
 aC (!y7) (R (T.v (.int .i64 9)))
 (R (T.v (.int .i64 0)))))))
 (aC (decide (a0.2.2.2.2.2.2.2.2.1<1))
 (R (T.v (.int .i64 9)))
 (aC (decide (32768<a0.2.2.2.2.2.2.2.2.1))
 (R (T.v (.int .i64 9)))
 (aI [(false,Sy.bool)]
 (fM
 [aB true qA a0.2.2.2.2.2.2.2.2.2.2.2])
 fun (y8:Bool) =>
 aC (!y8) (R (T.v (.int .i64 9)))
 (R (T.v (.int .i64 0)))))))))))))))
theorem U0 ( a0 a1 R):bK aV Tryz.prog H0 VO 8 82 [aB true bB a0,aB true aL a1] R=IT a0 a1 R:=by kernel_rfl
abbrev CR:Sh:=[(true,bB),(true,aL)]
def FK (x:bI×aM):Option T:=E1 x.1 x.2 (T.v (Value.int .i64 (eP x.1 x.2)))
noncomputable def iA:List T→Option (T):=gS CR FK
theorem XO {a0 a1}:iA [aB true bB a0,aB true aL a1]=FK (a0,a1):=a7 (s:=CR) rfl (a0,a1) rfl
theorem AII (h:∀ a0 a1 r,FK (a0,a1)=some r→cD CR (a0,a1)→IT a0 a1 (fun y=>y=r)):aJ Tryz.prog 82 iA :=
 aR (E:=H0) (Hs:=VO) AAR aZ a6 (aN rfl) 8 ⟨_,_,Tryz.func82,rfl⟩ rfl fun x r h1 h2=>by
  obtain ⟨a0,a1⟩:=x
  rw[show Sh.bO CR (a0,a1)=[aB true bB a0,aB true aL a1] from rfl,U0]
  exact h a0 a1 r h1 h2
theorem OC:aJ Tryz.prog 82 iA:=AII fun p m r h hb=>by
 obtain ⟨hok,hs1,hs2,rfl⟩:=OZ h
 replace hok:M8 m=true:=hok
 clear h hb
 have is:∀ {n:Int},eP p m=n→T.v (.int .i64 n)=T.v (.int .i64 (eP p m)):=fun h=>by rw[h]
 unfold IT
 refine aF (s:=AV) (y:=iD p.1) (KY hs1) ?_
 refine dJ (fun h=>is (by unfold eP;rw[if_pos (.inl h)])) fun i1=>?_
 refine aF (s:=AV) (y:=iD (dC p)) (KY hs2) ?_
 refine dJ (fun h=>is (by unfold eP;rw[if_pos (.inr h)])) fun i2=>?_
 have n1:¬ (iD p.1=false∨iD (dC p)=false):=by
  rintro (h|h)
  ·rw[show iD p.1=true from i1] at h;cases h
  ·rw[show iD (dC p)=true from i2] at h;cases h
 have r9:¬ (1≤p.2.1∧p.2.1≤1000)→T.v (.int .i64 9)=T.v (.int .i64 (eP p m)):=fun h=>is (by unfold eP;rw[if_neg n1,if_pos h])
 refine cH (fun h=>r9 (by omega)) fun v1=>cH (fun h=>r9 (by omega)) fun v2=>?_
 have n2:¬ ¬ (1≤p.2.1∧p.2.1≤1000):=fun h=>h (by omega)
 have r10:¬ (aY p=1∨aY p=2∨aY p=3∨aY p=4)→T.v (.int .i64 10)=T.v (.int .i64 (eP p m)):=fun h=>is (by unfold eP;rw[if_neg n1,if_neg n2,if_pos h])
 refine cH (fun h=>r10 (by unfold aY;omega)) fun k1=>cH (fun h=>r10 (by unfold aY;omega)) fun k2=>?_
 have hk:aY p=1∨aY p=2∨aY p=3∨aY p=4:=by unfold aY;omega
 have w1:eP p m=if AN p=true then 2 else if lY p m=false then 23 else if aY p=1∧¬ jY (eM p)=0 then jY (eM p) else if (aY p=2∨aY p=3)∧¬ (1≤jW p∧jW p≤32768) then 9 else if aY p=4∧¬ (1≤gZ p∧gZ p≤1099511627776∧lT (zD p)=true) then 9 else if sZ (aAt p)=false then 9 else 0:=by
  unfold eP;rw[if_neg n1,if_neg n2,if_neg (fun h=>h hk)]
 have spare:∀ {K:Bool→Prop},K (AN p)→aI [(false,Sy.bool)] (kD [aB true bB p]) K:=fun h=>aF (s:=[(false,.bool)]) (y:=AN p) ((SC ..).trans (OX _ hk)) h
 have made:∀ {K:Bool→Prop},K (lY p m)→aI [(false,Sy.bool)] (kB [aB true bB p,aB true aL m]) K:=fun h=>aF (s:=[(false,.bool)]) (y:=lY p m) ((R1 ..).trans (by unfold nX;rw[hok];exact OX _ hk)) h
 have place:∀ {K:Bool→Prop},K (sZ (aAt p))→aI [(false,Sy.bool)] (fM [aB true qA (aAt p)]) K:=fun h=>aF (s:=[(false,.bool)]) (y:=sZ (aAt p)) (SE ..) h
 have far:∀ {K:Bool→Prop},K (!lT (zD p))→aI [(false,Sy.bool)] (rU [aB true Z1 (zD p)]) K:=fun h=>aF (s:=[(false,.bool)]) (y:=!lT (zD p)) (ACO ..) h
 have reg:∀ {K:Int→Prop},K (jY (eM p))→aI [(false,Sy.int IntKind.i64)] (gC [aB true eZ (eM p)]) K:=fun h=>aF (s:=[(false,.int .i64)]) (F5 _) h
 refine spare ?_
 refine GN (fun h=>is (by rw[w1,if_pos h])) fun s0=>?_
 refine made ?_
 refine dJ (fun h=>is (by rw[w1,if_neg (by rw[s0];exact Bool.noConfusion),if_pos h])) fun m0=>?_
 have w2:eP p m=if aY p=1∧¬ jY (eM p)=0 then jY (eM p) else if (aY p=2∨aY p=3)∧¬ (1≤jW p∧jW p≤32768) then 9 else if aY p=4∧¬ (1≤gZ p∧gZ p≤1099511627776∧lT (zD p)=true) then 9 else if sZ (aAt p)=false then 9 else 0:=by
  rw[w1,if_neg (by rw[s0];exact Bool.noConfusion),if_neg (by rw[m0];exact Bool.noConfusion)]
 clear w1 n1 n2 r9 r10
 have fin:¬ (aY p=1∧¬ jY (eM p)=0)→¬ ((aY p=2∨aY p=3)∧¬ (1≤jW p∧jW p≤32768))→¬ (aY p=4∧¬ (1≤gZ p∧gZ p≤1099511627776∧lT (zD p)=true))→aI [(false,Sy.bool)] (fM [aB true qA (aAt p)]) (fun y:Bool=>aC (!y) (T.v (.int .i64 9)=T.v (.int .i64 (eP p m))) (T.v (.int .i64 0)=T.v (.int .i64 (eP p m)))):=fun a b c=>place (dJ (fun v=>is (by rw[w2,if_neg a,if_neg b,if_neg c,if_pos v])) fun v=>is (by rw[w2,if_neg a,if_neg b,if_neg c,if_neg (by rw[v];exact Bool.noConfusion)]))
 refine cH (fun h1=>reg (mV (fun h=>is (by rw[w2,if_pos ⟨h1,h⟩])) fun h=>fin (fun h2=>h2.2 h) ?_ ?_)) fun h1=>cH (fun h4=>?_) fun h4=>?_
 ·have h1:aY p=1:=h1
  omega
 ·have h1:aY p=1:=h1
  omega
 ·have h4:aY p=4:=h4
  have a:¬ (aY p=1∧¬ jY (eM p)=0):=fun h=>h1 h.1
  have b:¬ ((aY p=2∨aY p=3)∧¬ (1≤jW p∧jW p≤32768)):=fun h=>by omega
  have no:¬ (1≤gZ p∧gZ p≤1099511627776∧lT (zD p)=true)→T.v (.int .i64 9)=T.v (.int .i64 (eP p m)):=fun h=>is (by rw[w2,if_neg a,if_neg b,if_pos ⟨h4,h⟩])
  refine cH (fun h=>no fun h2=>?_) fun l1=>cH (fun h=>no fun h2=>?_) fun l2=>far (GN (fun h=>no fun h2=>?_) fun h=>fin a b fun h2=>h2.2 ⟨?_,?_,?_⟩)
  ·have h:gZ p<1:=h
   omega
  ·have h:1099511627776<gZ p:=h
   omega
  ·rw[h2.2.2] at h;cases h
  ·have l1:¬ gZ p<1:=l1
   omega
  ·have l2:¬ 1099511627776<gZ p:=l2
   omega
  ·cases hv:lT (zD p)
   ·rw[hv] at h;cases h
   ·rfl
 ·have h4:¬ aY p=4:=h4
  have h1:¬ aY p=1:=h1
  have k23:aY p=2∨aY p=3:=by omega
  have a:¬ (aY p=1∧¬ jY (eM p)=0):=fun h=>h1 h.1
  have no:¬ (1≤jW p∧jW p≤32768)→T.v (.int .i64 9)=T.v (.int .i64 (eP p m)):=fun h=>is (by rw[w2,if_neg a,if_pos ⟨k23,h⟩])
  refine cH (fun h=>no fun h2=>?_) fun l1=>cH (fun h=>no fun h2=>?_) fun l2=>fin a (fun h2=>h2.2 ⟨?_,?_⟩) fun h2=>h4 h2.1
  ·have h:jW p<1:=h
   omega
  ·have h:32768<jW p:=h
   omega
  ·have l1:¬ jW p<1:=l1
   omega
  ·have l2:¬ 32768<jW p:=l2
   omega
theorem F4 {m:aM} {p:bI} (h:M8 m=true) (h1:AU p.1=true) (h2:AU (dC p)=true):iA [aB true bB p,aB true aL m]=some (Sh.enc [(false,.int .i64)] (eP p m)):=(XO ..).trans (O0 _ h h1 h2)
noncomputable def HQ:Env:=Env.of [(82,.pure iA),(121,.pure cV),(122,.pure hO),(123,.pure nD)]
def VE:FuncId→Hint:=fun _=>aU
theorem AAH:aG Tryz.prog HQ:=aG.cons (x:=.pure iA) OC (aG.cons (x:=.pure cV) u6 (aG.cons (x:=.pure hO) OA (aG.cons (x:=.pure nD) AG0 (aG.nil _))))
def IF (a0:bI) (a1:aM) (R:T→Prop):Prop :=
 aI [(false,Sy.int IntKind.i64)]
 (iA [aB true bB a0,aB true aL a1]) fun (y0:Int) =>
 aC (!decide (y0=0))
 (R (T.cA [T.v (.int .i64 0),T.v (.int .i64 y0)]))
 (aI [(true,bS),(false,Sy.bool)]
 (cV [aB true aL a1,T.v (.string a0.2.2.2.2.1)])
 fun (y1:e9×Bool) =>
 aI [(true,b6),(false,Sy.bool)]
 (hO
 [aB true aL a1,T.v (.string a0.2.2.2.2.2.2.2.1)])
 fun (y2:fV×Bool) =>
 aC (decide (a0.2.2.1=1))
 (aI [(false,Sy.int IntKind.i64)]
 (nD [aB true eZ a0.2.2.2.2.2.2.1]) fun (y3:Int) =>
 cL true
 (R
 (T.cA
 [T.v
 (Value.int IntKind.i64
 (IntKind.i64.wrap
 ((IntKind.i64.wrap
 (IntKind.i64.wrap (y3*a0.2.2.2.2.2.1)*y1.1.2.1)).tdiv
 2000000))),
 T.v (.int .i64 0)])))
 (aC (decide (a0.2.2.1=4))
 (R
 (T.cA
 [T.v (.int .i64 a0.2.2.2.2.2.2.2.2.2.1),
 T.v (.int .i64 0)]))
 (cL true
 (R
 (T.cA
 [T.v
 (Value.int IntKind.i64
 (IntKind.i64.wrap
 ((IntKind.i64.wrap
 (IntKind.i64.wrap (y2.1.2.1*a0.2.2.2.2.2.2.2.2.1) *
 y1.1.2.1)).tdiv
 1000000))),
 T.v (.int .i64 0)])))))
theorem UP ( a0 a1 R):bK aV Tryz.prog HQ VE 8 83 [aB true bB a0,aB true aL a1] R=IF a0 a1 R:=by kernel_rfl
abbrev CH:Sh:=[(true,bB),(true,aL)]
abbrev ZC:Sh:=[(false,Sy.int IntKind.i64),(false,Sy.int IntKind.i64)]
def FD (x:bI×aM):Option T:=E1 x.1 x.2 (Sh.enc ZC (lK x.1 x.2))
noncomputable def nH:List T→Option (T):=gS CH FD
theorem XE {a0 a1}:nH [aB true bB a0,aB true aL a1]=FD (a0,a1):=a7 (s:=CH) rfl (a0,a1) rfl
theorem AH7 (h:∀ a0 a1 r,FD (a0,a1)=some r→cD CH (a0,a1)→IF a0 a1 (fun y=>y=r)):aJ Tryz.prog 83 nH :=
 aR (E:=HQ) (Hs:=VE) AAH aZ a6 (aN rfl) 8 ⟨_,_,Tryz.func83,rfl⟩ rfl fun x r h1 h2=>by
  obtain ⟨a0,a1⟩:=x
  rw[show Sh.bO CH (a0,a1)=[aB true bB a0,aB true aL a1] from rfl,UP]
  exact h a0 a1 r h1 h2
theorem AG6:aJ Tryz.prog 83 nH:=AH7 fun p m r h hb=>by
 obtain ⟨hok,hs1,hs2,rfl⟩:=OZ h
 replace hok:M8 m=true:=hok
 clear h hb
 have is:∀ {a b:Int},lK p m=(a,b)→T.cA [T.v (.int .i64 a),T.v (.int .i64 b)]=Sh.enc ZC (lK p m):=fun h=>by rw[h];rfl
 unfold IF
 refine aF (s:=[(false,.int .i64)]) (F4 hok hs1 hs2) ?_
 refine mV (fun h=>is (by unfold lK;rw[if_neg h])) fun h=>?_
 refine aF (s:=[(true,bS),(false,.bool)]) (o5 hok _) ?_
 refine aF (s:=[(true,b6),(false,.bool)]) (F2 m _) ?_
 have w:lK p m=(q8 p m,0):=by unfold lK;rw[if_pos h]
 have hk:aY p=1∨aY p=2∨aY p=3∨aY p=4:=by
  refine Classical.byContradiction fun hc=>?_
  have h:=h
  unfold eP at h
  by_cases c1:iD p.1=false∨iD (dC p)=false
  ·rw[if_pos c1] at h;cases h
  ·rw[if_neg c1] at h
   by_cases c2:¬ (1≤p.2.1∧p.2.1≤1000)
   ·rw[if_pos c2] at h;cases h
   ·rw[if_neg c2,if_pos hc] at h;cases h
 have eg:(found eT (eG m (j0 p))).1=KW m (j0 p):=AEX
 have es:(found tS (yG m (MO p))).1=AO8 m (MO p):=AEX
 refine cH (fun k1=>?_) fun k1=>?_
 ·refine aF (s:=[(false,.int .i64)]) (W8 _) ?_
  refine ⟨rfl,is ?_⟩
  rw[w];unfold q8;rw[if_pos k1,←eg]
 refine cH (fun k4=>is ?_) fun k4=>⟨rfl,is ?_⟩
 ·have k4:aY p=4:=k4
  rw[w];unfold q8;rw[if_neg k1,if_neg (by omega)]
 ·have k4:¬ aY p=4:=k4
  have k1:¬ aY p=1:=k1
  rw[w];unfold q8;rw[if_neg k1,if_pos (by omega),←eg,←es]
theorem XF {m:aM} {p:bI} (h:M8 m=true) (h1:AU p.1=true) (h2:AU (dC p)=true):nH [aB true bB p,aB true aL m]=some (Sh.enc [(false,.int .i64),(false,.int .i64)] (lK p m)):=(XE ..).trans (O0 _ h h1 h2)
end Go.Pv
namespace Go.Pv
open Go Go.Proofs
def uX (n:Int) (x:aK):Int:=if x.1<0∨n≤x.1∨x.2<0∨n≤x.2 then 9 else if x.1=x.2 then 2 else 0
def ABO (b:List Int) (e:aK):List Int:=b.set e.2.toNat (IntKind.i64.wrap (b.getD e.2.toNat 0+1))
def ABT (v:Int) (b:List Int) (e:aK):List Int:=if e.1=v then b.set e.2.toNat (IntKind.i64.wrap (b.getD e.2.toNat 0-1)) else b
def AKQ (b:List Int) (t:List Bool) (k:Nat):Bool:=!t.getD k false&&decide (b.getD k 0≤0)
def SY (l:List aK) (n:Nat):Nat→List Int→List Int→List Bool→List Int×Int
 | 0,_,o,_=>(o,0)
 | f+1,b,o,t=>match (List.range n).find? (AKQ b t) with
  | none=>([],20)
  | some v=>SY l n f (l.foldl (ABT v) b) (o++[(v:Int)]) (t.set v true)
def gI (n:Int) (l:List aK):List Int×Int :=
 if n<0∨256<n then ([],9) else if bA (uX n) l=0 then SY l n.toNat n.toNat (l.foldl ABO (List.replicate n.toNat 0)) [] (List.replicate n.toNat false) else ([],bA (uX n) l)
theorem WC (b:List Int) (e:aK):(ABO b e).length=b.length:=by unfold ABO;rw[List.length_set]
theorem WH (v:Int) (b:List Int) (e:aK):(ABT v b e).length=b.length:=by unfold ABT;split<;>simp
theorem KH {α β:Type} {f:List β→α→List β} (hf:∀ b e,(f b e).length=b.length):∀ (l:List α) (b:List β),(l.foldl f b).length=b.length
 | [],_=>rfl
 | e::l,b=>(KH hf l (f b e)).trans (hf b e)
theorem lG {α:Type} {f:α→Int}:∀ {l:List α},bA f l=0→∀ a∈l,f a=0
 | [],_,_,h=>by cases h
 | b::l,h,a,ha=>by
  unfold bA at h
  split at h
  ·rename_i hb
   rcases List.mem_cons.1 ha with rfl|ha
   ·exact hb
   ·exact lG h a ha
  ·exact absurd h ‹_›
theorem O7 {r:Sy} {l:List r.den} {i:Int} (h0:0≤i) (h:i.toNat<l.length) (K:r.den→Prop):aQ r (List.map r.enc l) i K=K l[i.toNat]:=by
 have e:i=((i.toNat:Nat):Int):=by omega
 have:=aO h K
 rw[←e] at this
 exact this
theorem ZJ {l:List Bool} {k:Nat} (h:k<l.length) (y:Bool):(List.map Sy.bool.enc l).set k (cF (Sy.bool.enc l[k]) 0 [T.v (.bool y)])=List.map Sy.bool.enc (l.set k y):=by
 rw[List.map_set];rfl
theorem GZ {α:Type} {l:List α} {k:Nat} (d:α) (h:k<l.length):l.getD k d=l[k]:=by simp[List.getD,h]
theorem AME (n:Nat):List.replicate n [T.v (.bool false)]=List.map Sy.bool.enc (List.replicate n false):=by rw[List.map_replicate];rfl
theorem AGZ (l:List Int):((List.map (Sy.int .i64).enc l).all fun (r:List T)=>r.all T.flat)=true:=by
 rw[List.all_map,List.all_eq_true];intro a _;rfl
end Go.Pv
namespace Go.Pv
open Go Go.Proofs
def yI (t:List Bool) (v:Nat) (e:aK):Bool:=decide (e.2=(v:Int)) && !t.getD e.1.toNat false
def GJ (l:List aK) (t:List Bool) (v:Nat):Bool:=l.any (yI t v)
def nC (l:List aK) (t:List Bool) (k:Nat):Bool:=!t.getD k false && !GJ l t k
def nP (l:List aK) (n:Nat):Nat→List Int→List Bool→List Int×Int
 | 0,o,_=>(o,0)
 | f+1,o,t=>match (List.range n).find? (nC l t) with
  | none=>([],20)
  | some v=>nP l n f (o++[(v:Int)]) (t.set v true)
theorem BJ {α:Type} {l:List α} {i:Nat} {x d:α} (h:i<l.length) (k:Nat):(l.set i x).getD k d=if k=i then x else l.getD k d:=by
 rw[List.getD_eq_getElem?_getD,List.getD_eq_getElem?_getD,List.getElem?_set]
 by_cases e:i=k
 ·subst e
  rw[if_pos rfl,if_pos h,if_pos rfl];rfl
 ·rw[if_neg e,if_neg (fun h=>e h.symm)]
theorem W1 (v:Nat):∀ (l:List aK) (b:List Int),(∀ e∈l,0≤e.2∧e.2.toNat<b.length)→(∀ v,0≤b.getD v 0∧b.getD v 0+l.length≤1000000000000000)→(l.foldl ABO b).getD v 0=b.getD v 0+(l.countP fun e=>decide (e.2=(v:Int)):Nat)
 | [],b,_,_=>by simp
 | e::l,b,h1,h2=>by
  obtain ⟨e0,e1⟩:=h1 e (by simp)
  have hb:=h2 e.2.toNat
  have hv:=h2 v
  simp only[List.length_cons] at hb hv
  have hw:IntKind.i64.wrap (b.getD e.2.toNat 0+1)=b.getD e.2.toNat 0+1:=aP _ (by omega) (by omega)
  have hg:∀ w,(ABO b e).getD w 0=if w=e.2.toNat then b.getD w 0+1 else b.getD w 0:=fun w=>by
   unfold ABO
   rw[BJ e1,hw]
   by_cases hc:w=e.2.toNat
   ·rw[if_pos hc,if_pos hc,hc]
   ·rw[if_neg hc,if_neg hc]
  rw[List.foldl_cons,W1 v l (ABO b e) (fun x hx=>by rw[WC];exact h1 x (by simp[hx])) (fun w=>by
   have:=h2 w
   simp only[List.length_cons] at this
   rw[hg]
   split<;>omega),hg,List.countP_cons]
  by_cases hc:v=e.2.toNat
  ·rw[if_pos hc,decide_eq_true (show e.2=(v:Int) by omega)];simp;omega
  ·rw[if_neg hc,decide_eq_false (show ¬ e.2=(v:Int) by omega)];simp
theorem W2 (v w:Nat):∀ (l:List aK) (b:List Int),(∀ e∈l,0≤e.2∧e.2.toNat<b.length)→(∀ v,b.getD v 0≤1000000000000000∧-1000000000000000≤b.getD v 0-l.length)→(l.foldl (ABT v) b).getD w 0=b.getD w 0-(l.countP fun e=>decide (e.1=(v:Int))&&decide (e.2=(w:Int)):Nat)
 | [],b,_,_=>by simp
 | e::l,b,h1,h2=>by
  obtain ⟨e0,e1⟩:=h1 e (by simp)
  have hb:=h2 e.2.toNat
  have hv:=h2 w
  simp only[List.length_cons] at hb hv
  have hw:IntKind.i64.wrap (b.getD e.2.toNat 0-1)=b.getD e.2.toNat 0-1:=aP _ (by omega) (by omega)
  have hg:∀ w,(ABT v b e).getD w 0=if e.1=(v:Int)∧w=e.2.toNat then b.getD w 0-1 else b.getD w 0:=fun w=>by
   unfold ABT
   by_cases hc:e.1=(v:Int)
   ·rw[if_pos hc,BJ e1,hw]
    by_cases hd:w=e.2.toNat
    ·rw[if_pos hd,if_pos ⟨hc,hd⟩,hd]
    ·rw[if_neg hd,if_neg (fun h=>hd h.2)]
   ·rw[if_neg hc,if_neg (fun h=>hc h.1)]
  rw[List.foldl_cons,W2 v w l (ABT v b e) (fun x hx=>by rw[WH];exact h1 x (by simp[hx])) (fun w=>by
   have:=h2 w
   simp only[List.length_cons] at this
   rw[hg]
   split<;>omega),hg,List.countP_cons]
  by_cases hc:e.1=(v:Int)
  ·by_cases hd:w=e.2.toNat
   ·rw[if_pos ⟨hc,hd⟩,decide_eq_true hc,decide_eq_true (show e.2=(w:Int) by omega)];simp;omega
   ·rw[if_neg (fun h=>hd h.2),decide_eq_true hc,decide_eq_false (show ¬ e.2=(w:Int) by omega)];simp
  ·rw[if_neg (fun h=>hc h.1),decide_eq_false hc];simp
def RE (l:List aK) (t:List Bool) (v:Nat):Nat:=l.countP (yI t v)
theorem AGN (l:List aK) (t:List Bool) (v:Nat):decide ((RE l t v:Int)≤0) = !GJ l t v:=by
 unfold RE GJ
 cases h:l.any (yI t v) with
 | true =>
  have:0<l.countP (yI t v):=List.countP_pos_iff.2 (List.any_eq_true.1 h)
  rw[decide_eq_false (by omega)];rfl
 | false =>
  have:l.countP (yI t v)=0:=List.countP_eq_zero.2 fun a ha=>by
   rw[Bool.eq_false_iff] at h
   intro h2
   exact h (List.any_eq_true.2 ⟨a,ha,h2⟩)
  rw[this];rfl
theorem A2 {α:Type} (p q r:α→Bool):∀ l:List α,(∀ a∈l,p a=(q a||r a)∧(q a&&r a)=false)→l.countP p=l.countP q+l.countP r
 | [],_=>rfl
 | a::l,h=>by
  obtain ⟨h1,h2⟩:=h a (by simp)
  rw[List.countP_cons,List.countP_cons,List.countP_cons,A2 p q r l fun b hb=>h b (by simp[hb]),h1]
  revert h2
  cases q a<;>cases r a<;>simp<;>omega
theorem AGM {l:List aK} {t:List Bool} {v:Nat} (hl:∀ e∈l,0≤e.1∧e.1.toNat<t.length) (hv:t.getD v false=false) (hvl:v<t.length) (w:Nat):RE l t w=RE l (t.set v true) w+l.countP fun e=>decide (e.1=(v:Int))&&decide (e.2=(w:Int)):=by
 unfold RE
 refine A2 _ _ _ _ fun e he=>?_
 obtain ⟨e0,e1⟩:=hl e he
 unfold yI
 rw[BJ hvl]
 by_cases hc:e.1=(v:Int)
 ·have:e.1.toNat=v:=by omega
  rw[if_pos this,this,hv,decide_eq_true hc]
  cases decide (e.2=(w:Int))<;>simp
 ·have:¬ e.1.toNat=v:=by omega
  rw[if_neg this,decide_eq_false hc]
  simp
theorem ANY {l:List aK} {b:List Int} {t:List Bool} {k:Nat} (h:b.getD k 0=(RE l t k:Int)):AKQ b t k=nC l t k:=by
 unfold AKQ nC
 rw[h,AGN]
theorem find_congr {α:Type} {p q:α→Bool}:∀ {l:List α},(∀ a∈l,p a=q a)→l.find? p=l.find? q
 | [],_=>rfl
 | a::l,h=>by rw[List.find?_cons,List.find?_cons,h a (by simp),find_congr fun b hb=>h b (by simp[hb])]
theorem LG {l:List aK} {n:Nat} (hll:l.length≤140737488355328) (hl:∀ e∈l,0≤e.1∧e.1.toNat<n∧0≤e.2∧e.2.toNat<n):∀ (f:Nat) (b:List Int) (o:List Int) (t:List Bool),b.length=n→t.length=n→(∀ k,k<n→b.getD k 0=(RE l t k:Int))→SY l n f b o t=nP l n f o t
 | 0,b,o,t,_,_,_=>rfl
 | f+1,b,o,t,hb,ht,h=>by
  rw[SY,nP,find_congr (q:=nC l t) fun k hk=>ANY (h k (List.mem_range.1 hk))]
  cases hf:(List.range n).find? (nC l t) with
  | none=>rfl
  | some v =>
   have hv:v<n:=List.mem_range.1 (List.mem_of_find?_eq_some hf)
   have hfree:=List.find?_some hf
   unfold nC at hfree
   rw[Bool.and_eq_true,Bool.not_eq_true'] at hfree
   refine LG hll hl f _ _ _ (by rw[KH (WH v)];exact hb) (by rw[List.length_set];exact ht) fun k hk=>?_
   have hcw:∀ w,RE l t w≤l.length:=fun w=>List.countP_le_length
   have hgd:∀ w,b.getD w 0≤140737488355328∧0≤b.getD w 0:=fun w=>by
    rcases Nat.lt_or_ge w n with hw|hw
    ·rw[h w hw];have:=hcw w;omega
    ·rw[List.getD_eq_getElem?_getD,List.getElem?_eq_none (by omega)];simp
   rw[W2 v k l b (fun e he=>by obtain ⟨_,_,x,y⟩:=hl e he;exact ⟨x,by omega⟩) (fun w=>by have:=hgd w;omega),h k hk,AGM (v:=v) (fun e he=>by obtain ⟨x,y,_⟩:=hl e he;exact ⟨x,by omega⟩) hfree.1 (by omega) k]
   omega
theorem LI {n:Int} {l:List aK} (hll:l.length≤140737488355328) (hn:0≤n) (hn2:n≤256) (h0:bA (uX n) l=0):gI n l=nP l n.toNat n.toNat [] (List.replicate n.toNat false):=by
 have hend:∀ e∈l,0≤e.1∧e.1<n∧0≤e.2∧e.2<n:=fun e he=>by
  have:=lG h0 e he
  unfold uX at this
  split at this
  ·exact absurd this (by decide)
  ·omega
 rw[gI,if_neg (by omega),if_pos h0]
 refine LG hll (fun e he=>by have:=hend e he;omega) _ _ _ _ (by rw[KH WC];simp) (by simp) fun k hk=>?_
 rw[W1 k l _ (fun e he=>by have:=hend e he;rw[List.length_replicate];omega) (fun w=>by
  have:(List.replicate n.toNat (0:Int)).getD w 0=0:=by
   rw[List.getD_eq_getElem?_getD,List.getElem?_replicate];split<;>rfl
  rw[this];omega)]
 have:(List.replicate n.toNat (0:Int)).getD k 0=0:=by
  rw[List.getD_eq_getElem?_getD,List.getElem?_replicate];split<;>rfl
 rw[this,Int.zero_add]
 unfold RE
 congr 1
 refine List.countP_congr fun e he=>?_
 unfold yI
 have:(List.replicate n.toNat false).getD e.1.toNat false=false:=by
  rw[List.getD_eq_getElem?_getD,List.getElem?_replicate];split<;>rfl
 rw[this];simp
end Go.Pv
namespace Go.Pv
open Go Go.Proofs
noncomputable def eqB {α:Type} (a b:α):Bool:=@decide (a=b) (Classical.propDecidable _)
theorem ANL {α:Type} {a b:α}:eqB a b=true↔a=b:=by unfold eqB;exact @decide_eq_true_iff _ (Classical.propDecidable _)
@[simp] theorem ASK {α:Type} (a:α):eqB a a=true:=ANL.2 rfl
def kK (d:aH) (id:ByteArray):Option bZ:=d.2.2.2.2.1.find? fun s=>decide (s.1=id)
def noPack:bZ:=(⟨#[]⟩,⟨#[]⟩,[],0,[])
def rF (x:aH×ByteArray):Option T:=some (Sh.enc [(true,aX),(false,.bool)] (found noPack (kK x.1 x.2)))
noncomputable def HW:Env:=Env.of []
def VK:FuncId→Hint:=fun f=>match f == 89 with|true=>⟨fun r=>match r == 2 with|true=>.inv [.val 6 false (.int .i64),.fix 1]|false=>.none,fun _ _=>none,fun _=>none⟩|false=>aU
theorem AAN:aG Tryz.prog HW:=aG.nil _
def IM (a0:aH) (a1:ByteArray) (R:T→Prop):Prop :=
 jT
 (aT.rows false
 [[D.p (T.v (.string { data:=#[] })),D.p (T.v (.string { data:=#[] })),
 D.p (T.v (Value.slice none 0 0)),D.p (T.v (.int .i64 0)),
 D.p (T.v (Value.slice none 0 0))]])
 (aT.rows false
 [[D.p (T.v (.string { data:=#[] })),D.p (T.v (.string { data:=#[] })),
 D.p (T.v (Value.slice none 0 0)),D.p (T.v (.int .i64 0)),
 D.p (T.v (Value.slice none 0 0))]])
 (a8 (Int×PUnit×PUnit)
 (fun (X0:Int×PUnit×PUnit→Prop) (s1:Int×PUnit×PUnit) =>
 aC (decide (s1.1<(↑(List.map aX.enc a0.2.2.2.2.1).length:Int)))
 (aQ aX (List.map aX.enc a0.2.2.2.2.1) s1.1
 fun (y2:bZ) =>
 aC (decide (y2.1=a1))
 (aQ aX (List.map aX.enc a0.2.2.2.2.1) s1.1
 fun (y3:bZ) =>
 R (T.cA [aB true aX y3,T.v (.bool true)]))
 (jT
 (aT.rows false
 [[D.p (T.v (.string { data:=#[] })),
 D.p (T.v (.string { data:=#[] })),
 D.p (T.v (Value.slice none 0 0)),
 D.p (T.v (.int .i64 0)),
 D.p (T.v (Value.slice none 0 0))]])
 (aT.rows false
 [[D.p (T.v (.string { data:=#[] })),
 D.p (T.v (.string { data:=#[] })),
 D.p (T.v (Value.slice none 0 0)),
 D.p (T.v (.int .i64 0)),
 D.p (T.v (Value.slice none 0 0))]])
 (X0 (IntKind.i64.wrap (s1.1+1),(),()))))
 (R
 (T.cA
 [T.agg
 [T.v (.string { data:=#[] }),T.v (.string { data:=#[] }),
 T.sl false [],T.v (.int .i64 0),T.sl false []],
 T.v (.bool false)])))
 (0,(),()))
theorem UW ( a0 a1 R):bK aV Tryz.prog HW VK 8 89 [aB true aE a0,aB false Sy.str a1] R=IM a0 a1 R:=by kernel_rfl
abbrev CN:Sh:=[(true,aE),(false,Sy.str)]
noncomputable def hU:List T→Option (T):=gS CN rF
theorem F3 {a0 a1}:hU [aB true aE a0,T.v (.string a1)]=rF (a0,a1):=a7 (s:=CN) rfl (a0,a1) rfl
theorem AID (h:∀ a0 a1 r,rF (a0,a1)=some r→cD CN (a0,a1)→IM a0 a1 (fun y=>y=r)):aJ Tryz.prog 89 hU :=
 aR (E:=HW) (Hs:=VK) AAN aZ a6 (aN rfl) 8 ⟨_,_,Tryz.func89,rfl⟩ rfl fun x r h1 h2=>by
  obtain ⟨a0,a1⟩:=x
  rw[show Sh.bO CN (a0,a1)=[aB true aE a0,aB false Sy.str a1] from rfl,UW]
  exact h a0 a1 r h1 h2
theorem OB:aJ Tryz.prog 89 hU:=AID fun d id r h hb=>by
 have hl:d.2.2.2.2.1.length≤2 ^ 47:=hb.1.2.2.2.2.1.1
 unfold IM
 rw[cI]
 refine aS d.2.2.2.2.1.length (fun k s=>s=((k:Int),(),())∧(d.2.2.2.2.1.drop k).find? (fun s=>decide (s.1=id))=kK d id) ⟨rfl,rfl⟩ ?_
 rintro X k s hk ⟨rfl,hf⟩ hX
 simp only[List.length_map,zS,cI]
 by_cases hlt:k<d.2.2.2.2.1.length
 ·rw[jB hlt] at hf
  simp only[hlt,decide_true,aC,aO (r:=aX) hlt]
  cases hc:decide (d.2.2.2.2.1[k].1=id) with
  | true =>
   simp only[hc,if_true] at hf
   simp only[rF,←hf] at h
   cases h;rfl
  | false =>
   simp only[hc] at hf
   refine hX _ hlt ⟨?_,hf⟩
   simp only[Prod.mk.injEq,and_true]
   exact aP _ (by omega) (by omega)
 ·have:k=d.2.2.2.2.1.length:=by omega
  subst this
  simp only[List.drop_length,List.find?_nil] at hf
  simp only[rF,←hf] at h
  simp only[hlt,decide_false,aC]
  cases h;rfl
theorem WB:Z4 Tryz.prog 91 1 16:=⟨fun R=>by kernel_rfl,fun fl R=>by kernel_rfl,fun fl a rows R=>by kernel_rfl⟩
noncomputable def j7:List T→Option T:=gS [(false,.li .str)] (iI .str 16)
theorem x8 {u0}:j7 [T.sl false (List.map (Sy.enc .str) u0)]=iI .str 16 u0:=a7 (s:=[(false,.li .str)]) rfl u0 rfl
theorem WU:aJ Tryz.prog 91 j7:=N4 aZ a6 ⟨_,_,Tryz.func91,rfl⟩ WB
def SS (p:bZ):Bool:=vJ 16 p.2.2.1.length&&vJ 16 p.2.2.2.2.length
def okK (d:aH):Bool:=d.2.2.2.2.1.all SS
def Y2 (d:aH) (t:T):Option T:=match okK d with
 | true=>some t
 | false=>none
theorem AL2 {d:aH} {t r:T} (h:Y2 d t=some r):okK d=true∧r=t:=by
 unfold Y2 at h;split at h
 ·cases h;exact ⟨by assumption,rfl⟩
 ·cases h
theorem AL3 {d:aH} (t:T) (h:okK d=true):Y2 d t=some t:=by unfold Y2;rw[h]
def HE (x:aH×ByteArray):Option T:=Y2 x.1 (Sh.enc [(true,aX),(false,.bool)] (found noPack (kK x.1 x.2)))
noncomputable def Z8:Env:=Env.of [(91,.pure j7)]
def AJK:FuncId→Hint:=fun f=>match f == 40 with|true=>⟨fun r=>match r == 2 with|true=>.inv [.val 11 false (.int .i64),.fix 1]|false=>.none,fun _ _=>none,fun _=>none⟩|false=>aU
theorem AJE:aG Tryz.prog Z8:=aG.cons (x:=.pure j7) WU (aG.nil _)
def AA5 (a0:aH) (a1:ByteArray) (R:T→Prop):Prop :=
 jT
 (aT.rows false
 [[D.p (T.v (.string { data:=#[] })),D.p (T.v (.string { data:=#[] })),
 D.p (T.v (Value.slice none 0 0)),D.p (T.v (.int .i64 0)),
 D.p (T.v (Value.slice none 0 0))]])
 (aT.rows false
 [[D.p (T.v (.string { data:=#[] })),D.p (T.v (.string { data:=#[] })),
 D.p (T.v (Value.slice none 0 0)),D.p (T.v (.int .i64 0)),
 D.p (T.v (Value.slice none 0 0))]])
 (a8 (Int×PUnit×PUnit)
 (fun (X0:Int×PUnit×PUnit→Prop) (s1:Int×PUnit×PUnit) =>
 aC (decide (s1.1<(↑(List.map aX.enc a0.2.2.2.2.1).length:Int)))
 (aQ aX (List.map aX.enc a0.2.2.2.2.1) s1.1
 fun (y2:bZ) =>
 aC (decide (y2.1=a1))
 (aI [(false,Sy.str.li)]
 (j7 [T.sl false (List.map Sy.str.enc y2.2.2.1)])
 fun (y3:List ByteArray) =>
 aI [(false,Sy.str.li)]
 (j7 [T.sl false (List.map Sy.str.enc y2.2.2.2.2)])
 fun (y4:List ByteArray) =>
 R
 (T.cA
 [T.agg
 [T.v (.string y2.1),T.v (.string y2.2.1),
 T.sl false (List.map Sy.str.enc y3),
 T.v (.int .i64 y2.2.2.2.1),
 T.sl false (List.map Sy.str.enc y4)],
 T.v (.bool true)]))
 (jT
 (aT.rows false
 [[D.p (T.v (.string { data:=#[] })),
 D.p (T.v (.string { data:=#[] })),
 D.p (T.v (Value.slice none 0 0)),
 D.p (T.v (.int .i64 0)),
 D.p (T.v (Value.slice none 0 0))]])
 (aT.rows false
 [[D.p (T.v (.string { data:=#[] })),
 D.p (T.v (.string { data:=#[] })),
 D.p (T.v (Value.slice none 0 0)),
 D.p (T.v (.int .i64 0)),
 D.p (T.v (Value.slice none 0 0))]])
 (X0 (IntKind.i64.wrap (s1.1+1),(),()))))
 (R
 (T.cA
 [T.agg
 [T.v (.string { data:=#[] }),T.v (.string { data:=#[] }),
 T.sl false [],T.v (.int .i64 0),T.sl false []],
 T.v (.bool false)])))
 (0,(),()))
theorem AF4 ( a0 a1 R):bK aV Tryz.prog Z8 AJK 8 40 [aB true aE a0,aB false Sy.str a1] R=AA5 a0 a1 R:=by kernel_rfl
abbrev TD:Sh:=[(true,aE),(false,Sy.str)]
noncomputable def ER:List T→Option (T):=gS TD HE
theorem AHH {a0 a1}:ER [aB true aE a0,T.v (.string a1)]=HE (a0,a1):=a7 (s:=TD) rfl (a0,a1) rfl
theorem AOQ (h:∀ a0 a1 r,HE (a0,a1)=some r→cD TD (a0,a1)→AA5 a0 a1 (fun y=>y=r)):aJ Tryz.prog 40 ER :=
 aR (E:=Z8) (Hs:=AJK) AJE aZ a6 (aN rfl) 8 ⟨_,_,Tryz.func40,rfl⟩ rfl fun x r h1 h2=>by
  obtain ⟨a0,a1⟩:=x
  rw[show Sh.bO TD (a0,a1)=[aB true aE a0,aB false Sy.str a1] from rfl,AF4]
  exact h a0 a1 r h1 h2
theorem ANV:aJ Tryz.prog 40 ER:=AOQ fun d id r h hb=>by
 have hl:d.2.2.2.2.1.length≤2 ^ 47:=hb.1.2.2.2.2.1.1
 obtain ⟨hok,rfl⟩:=AL2 h
 clear h
 unfold AA5
 rw[cI]
 refine aS d.2.2.2.2.1.length (fun k s=>s=((k:Int),(),())∧(d.2.2.2.2.1.drop k).find? (fun s=>decide (s.1=id))=kK d id) ⟨rfl,rfl⟩ ?_
 rintro X k s hk ⟨rfl,hf⟩ hX
 simp only[List.length_map,zS,cI]
 by_cases hlt:k<d.2.2.2.2.1.length
 ·rw[jB hlt] at hf
  have hp:SS d.2.2.2.2.1[k]=true:=List.all_eq_true.1 hok _ (List.getElem_mem hlt)
  simp only[hlt,decide_true,aC,aO (r:=aX) hlt]
  unfold SS at hp
  simp only[Bool.and_eq_true] at hp
  cases hc:decide (d.2.2.2.2.1[k].1=id) with
  | true =>
   simp only[hc,if_true] at hf
   rw[←hf]
   refine aF (s:=[(false,.li .str)]) (y:=d.2.2.2.2.1[k].2.2.1) (by rw[x8,iI,nV hp.1];rfl) ?_
   refine aF (s:=[(false,.li .str)]) (y:=d.2.2.2.2.1[k].2.2.2.2) (by rw[x8,iI,nV hp.2];rfl) ?_
   rfl
  | false =>
   simp only[hc] at hf
   refine hX _ hlt ⟨?_,hf⟩
   simp only[Prod.mk.injEq,and_true]
   exact aP _ (by omega) (by omega)
 ·have:k=d.2.2.2.2.1.length:=by omega
  subst this
  simp only[List.drop_length,List.find?_nil] at hf
  rw[←hf]
  simp only[hlt,decide_false,aC]
  rfl
end Go.Pv
namespace Go.Pv
open Go Go.Proofs
def vQ (d:aH) (s:xV):Int:=if iD s.1=false∨iD s.2.1=false∨iD s.2.2.1=false then 6 else if s.2.1=s.2.2.1 then 2 else if ¬ s.2.2.2.1=1∧¬ s.2.2.2.1=2 then 10 else if s.2.2.2.2.1<1∨32768<s.2.2.2.2.1∨s.2.2.2.2.2<1∨3<s.2.2.2.2.2 then 9 else if (partOf d s.2.1).isNone=true∨(partOf d s.2.2.1).isNone=true then 8 else 0
def BN (d:aH) (id:ByteArray):Bool:=match bD d id with
 | some n=>decide (n.2.1=1)
 | none=>false
def vI (d:aH) (x:qC):Int:=if x.1<1∨3<x.1 then 10 else if x.2.2=x.2.1 then 2 else if BN d x.2.1=false then 8 else if (x.1=1∧¬ x.2.2 = { data:=#[] }∧BN d x.2.2=false)∨(x.1=2∧BN d x.2.2=false)∨(x.1=3∧(kK d x.2.2).isNone=true) then 8 else 0
end Go.Pv
namespace Go.Pv
open Go Go.Proofs
end Go.Pv
namespace Go.Pv
open Go Go.Proofs
def eE (d:aH) (m:aM) (p:bI):Int:=if eP p m=0 then (if (bD d (dC p)).isNone=true then 8 else 0) else eP p m
def L6 (m:aM):List bI→Int→Int
 | [],_=>0
 | p::l,s=>if 1099511627776<IntKind.i64.wrap (s+(lK p m).1) then 13 else L6 m l (IntKind.i64.wrap (s+(lK p m).1))
def iV (d:aH) (m:aM):Int:=if bA (eE d m) d.2.2.1=0 then L6 m d.2.2.1 0 else bA (eE d m) d.2.2.1
end Go.Pv
namespace Go.Pv
open Go Go.Proofs
abbrev fD (k:bZ):List ByteArray:=k.2.2.1
abbrev dQ (k:bZ):List ByteArray:=k.2.2.2.2
abbrev SL (k:bZ):Int:=k.2.2.2.1
def vB (d:aH) (k:bZ):Int:=if iD k.1=false then 6 else if BN d k.2.1=false then 8 else if SL k<1∨10000<SL k then 9 else if AS (fD k)=false∨AS (dQ k)=false then 11 else 0
def instE (d:aH) (b:ByteArray):List ByteArray→List ByteArray→Int×List ByteArray
 | [],S=>(0,S)
 | id::l,S=>match partOf d id with
  | none=>(8,S)
  | some p=>if ¬ aY p=4∧¬ aY p=3 then (10,S) else if (up d (dC p)).1.getLast? = some b then (if kH S id=true then (7,S) else instE d b l (id::S)) else (2,S)
def MQ (d:aH) (k:ByteArray) (i:Int):List ByteArray→List aK→Int×List aK
 | [],E=>(0,E)
 | id::l,E=>if id=k then (2,E) else match gE (ixs (ids d.2.2.2.2.1)) id with
  | none=>(8,E)
  | some j=>MQ d k i l (E++[(j,i)])
def mE (d:aH):List bZ→Int→List aK→List ByteArray→Int×List aK
 | [],_,E,_=>(0,E)
 | k::l,i,E,S=>if ¬ vB d k=0 then (vB d k,E) else if ¬ (instE d k.2.1 (fD k) S).1=0 then ((instE d k.2.1 (fD k) S).1,E) else if ¬ (MQ d k.1 i (dQ k) E).1=0 then ((MQ d k.1 i (dQ k) E).1,E) else
  mE d l (i+1) (MQ d k.1 i (dQ k) E).2 (instE d k.2.1 (fD k) S).2
def kL (d:aH):Int:=if (mE d d.2.2.2.2.1 0 [] []).1=0 then (if (gI d.2.2.2.2.1.length (mE d d.2.2.2.2.1 0 [] []).2).2=0 then 0 else 20) else (mE d d.2.2.2.2.1 0 [] []).1
theorem vT (a b:ByteArray):gL a b=true↔a.data.toList<b.data.toList:=by
 unfold gL;rw[bytesLess_eq,decide_eq_true_iff]
theorem AEL {a b:ByteArray} (h:(!(gL b a||decide (b=a)))=true):a.data.toList<b.data.toList:=by
 simp only[Bool.not_eq_true',Bool.or_eq_false_iff,decide_eq_false_iff_not] at h
 refine Classical.byContradiction fun hc=>h.2 ?_
 have h1:¬ b.data.toList<a.data.toList:=fun h'=>by rw[(vT b a).2 h'] at h;exact absurd h.1 (by decide)
 have e:b.data.toList=a.data.toList:=List.le_antisymm (List.not_lt.1 hc) (List.not_lt.1 h1)
 exact ByteArray.ext (Array.ext' e)
theorem V3:∀ {l:List ByteArray},AS l=true→l.Pairwise fun a b=>a.data.toList<b.data.toList
 | [],_=>List.Pairwise.nil
 | [a],_=>by simp
 | a::b::l,h=>by
  rw[AS,Bool.and_eq_true] at h
  have h1:=AEL h.1
  have ih:=V3 h.2
  refine List.pairwise_cons.2 ⟨fun x hx=>?_,ih⟩
  rcases List.mem_cons.1 hx with rfl|hx
  ·exact h1
  ·exact List.lt_trans h1 ((List.pairwise_cons.1 ih).1 x hx)
theorem wE {l:List ByteArray} (h:AS l=true):l.Nodup:=by
 refine (V3 h).imp fun {a b} hab e=>?_
 subst e
 exact List.lt_irrefl _ hab
end Go.Pv
namespace Go.Pv
open Go Go.Proofs
end Go.Pv
namespace Go.Pv
open Go Go.Proofs
def zF (d:aH) (m:aM):Int:=if ¬ uI m=0 then uI m else if isName d.1=false then 6 else if ¬ jC d=0 then jC d else if ¬ gG d=0 then gG d else if ¬ iV d m=0 then iV d m else if ¬ bA (vQ d) d.2.2.2.1=0 then bA (vQ d) d.2.2.2.1 else if ¬ kL d=0 then kL d else bA (vI d) d.2.2.2.2.2
theorem AOC {m:aM} (h:uI m=0):M8 m=true:=by
 unfold uI at h
 split at h
 ·cases h
 rename_i h1
 split at h
 ·rename_i h2;exact absurd h h2
 rename_i h2
 have h2:bA (kE m) (List.range m.1.length)=0:=Classical.byContradiction h2
 simp only[M8,Bool.and_eq_true,decide_eq_true_eq,List.all_eq_true]
 refine ⟨⟨by omega,by omega⟩,fun g hg=>?_⟩
 obtain ⟨i,hi,rfl⟩:=List.mem_iff_getElem.1 hg
 have h3:=oI h2 i (List.mem_range.2 hi)
 unfold kE at h3
 rw[kW hi] at h3
 have h4:o7 m.1[i]=0:=by
  refine Classical.byContradiction fun hc=>?_
  rw[if_pos hc] at h3
  exact hc h3
 unfold o7 at h4
 split at h4
 ·cases h4
 split at h4
 ·cases h4
 split at h4
 ·cases h4
 split at h4
 ·cases h4
 ·omega
end Go.Pv
namespace Go.Pv
open Go Go.Proofs
def uZ (d:aH) (n:Int):Bool:=decide ((d.2.1.length:Int)≤n)&&decide ((d.2.2.1.length:Int)≤n)&&decide ((d.2.2.2.1.length:Int)≤n)&&decide ((d.2.2.2.2.1.length:Int)≤n)&&decide ((d.2.2.2.2.2.length:Int)≤n)&&d.2.2.2.2.1.all fun k=>decide ((k.2.2.1.length:Int)≤n)&&decide ((k.2.2.2.2.length:Int)≤n)
def ADZ (x:aH×Int):Option T:=some (Sh.enc r_b (uZ x.1 x.2))
noncomputable def AJA:Env:=Env.of []
def APC:FuncId→Hint:=fun f=>match f == 7 with|true=>⟨fun r=>match r == 4 with|true=>.inv [.val 5 false (.int .i64)]|false=>.none,fun _ _=>none,fun _=>none⟩|false=>aU
theorem AM5:aG Tryz.prog AJA:=aG.nil _
def AJF (a0:aH) (a1:Int) (R:T→Prop):Prop :=
 aC (decide (a1<(↑(List.map bM.enc a0.2.1).length:Int))) (R (T.v (.bool false)))
 (aC (decide (a1<(↑(List.map bB.enc a0.2.2.1).length:Int)))
 (R (T.v (.bool false)))
 (aC (decide (a1<(↑(List.map gN.enc a0.2.2.2.1).length:Int)))
 (R (T.v (.bool false)))
 (aC (decide (a1<(↑(List.map aX.enc a0.2.2.2.2.1).length:Int)))
 (R (T.v (.bool false)))
 (aC (decide (a1<(↑(List.map fT.enc a0.2.2.2.2.2).length:Int)))
 (R (T.v (.bool false)))
 (a8 (Int×PUnit)
 (fun (X0:Int×PUnit→Prop) (s1:Int×PUnit) =>
 aC (decide (s1.1<(↑(List.map aX.enc a0.2.2.2.2.1).length:Int)))
 (aQ aX (List.map aX.enc a0.2.2.2.2.1) s1.1
 fun (y2:bZ) =>
 aC (decide (a1<(↑(List.map Sy.str.enc y2.2.2.1).length:Int)))
 (R (T.v (.bool false)))
 (aQ aX (List.map aX.enc a0.2.2.2.2.1) s1.1
 fun (y3:bZ) =>
 aC (decide (a1<(↑(List.map Sy.str.enc y3.2.2.2.2).length:Int)))
 (R (T.v (.bool false))) (X0 (IntKind.i64.wrap (s1.1+1),()))))
 (R (T.v (.bool true))))
 (0,()))))))
theorem AJG ( a0 a1 R):bK aV Tryz.prog AJA APC 8 7 [aB true aE a0,aB false (Sy.int IntKind.i64) a1] R=AJF a0 a1 R:=by kernel_rfl
abbrev AFI:Sh:=[(true,aE),(false,(Sy.int IntKind.i64))]
noncomputable def x9:List T→Option (T):=gS AFI ADZ
theorem AKR {a0 a1}:x9 [aB true aE a0,T.v (.int .i64 a1)]=ADZ (a0,a1):=a7 (s:=AFI) rfl (a0,a1) rfl
theorem AQ5 (h:∀ a0 a1 r,ADZ (a0,a1)=some r→cD AFI (a0,a1)→AJF a0 a1 (fun y=>y=r)):aJ Tryz.prog 7 x9 :=
 aR (E:=AJA) (Hs:=APC) AM5 aZ a6 (aN rfl) 8 ⟨_,_,Tryz.func7,rfl⟩ rfl fun x r h1 h2=>by
  obtain ⟨a0,a1⟩:=x
  rw[show Sh.bO AFI (a0,a1)=[aB true aE a0,aB false (Sy.int IntKind.i64) a1] from rfl,AJG]
  exact h a0 a1 r h1 h2
theorem r4 {n:Int} {m:Nat} {A B:Prop} (h1:¬ (m:Int)≤n→A) (h2:(m:Int)≤n→B):aC (decide (n<(m:Int))) A B:=by
 by_cases h:(m:Int)≤n
 ·exact dK (by omega) (h2 h)
 ·exact cQ (by omega) (h1 h)
theorem AJO {α:Type} {p:α→Bool} {l:List α} {k:Nat} (h:k<l.length):(l.drop k).all p=(p l[k]&&(l.drop (k+1)).all p):=by rw[List.drop_eq_getElem_cons h,List.all_cons]
theorem AKL:aJ Tryz.prog 7 x9:=AQ5 fun d n r h hb=>by
 cases h
 have hl:d.2.2.2.2.1.length≤2 ^ 47:=hb.1.2.2.2.2.1.1
 have no:uZ d n=false→T.v (.bool false)=Sh.enc r_b (uZ d n):=fun h=>by rw[h];rfl
 unfold AJF
 simp only[List.length_map]
 refine r4 (fun h=>no (by simp[uZ,h])) fun g1=>?_
 refine r4 (fun h=>no (by simp[uZ,h])) fun g2=>?_
 refine r4 (fun h=>no (by simp[uZ,h])) fun g3=>?_
 refine r4 (fun h=>no (by simp[uZ,h])) fun g4=>?_
 refine r4 (fun h=>no (by simp[uZ,h])) fun g5=>?_
 refine aS d.2.2.2.2.1.length (fun k s=>s=((k:Int),())∧uZ d n=(d.2.2.2.2.1.drop k).all fun k=>decide ((k.2.2.1.length:Int)≤n)&&decide ((k.2.2.2.2.length:Int)≤n)) ⟨rfl,by simp only[uZ,g1,g2,g3,g4,g5,decide_true,Bool.true_and,List.drop_zero]⟩ ?_
 rintro X k s hk ⟨rfl,he⟩ hX
 dsimp only
 by_cases hlt:k<d.2.2.2.2.1.length
 ·rw[AJO hlt] at he
  refine cQ (by simp[hlt]) ?_
  rw[aO (r:=aX) hlt]
  try simp only[List.length_map]
  refine r4 (fun h=>no (by rw[he];simp[h])) fun g6=>?_
  try rw[aO (r:=aX) hlt]
  try simp only[List.length_map]
  refine r4 (fun h=>no (by rw[he];simp[h])) fun g7=>?_
  refine hX _ hlt ⟨by rw[show IntKind.i64.wrap ((k:Int)+1)=((k+1:Nat):Int) from aP _ (by omega) (by omega)],?_⟩
  rw[he]
  simp only[g6,g7,decide_true,Bool.true_and]
 ·have:k=d.2.2.2.2.1.length:=by omega
  subst this
  refine dK (by simp) ?_
  rw[he];simp only[List.drop_length,List.all_nil];rfl
theorem KO (K:Bool→Prop):aI [(false,Sy.bool)] (dO []) K=K true:=mJ (s:=[(false,Sy.bool)]) rfl true K
theorem AKX {c:Bool} {A B:Prop} (h1:c=true→A) (h2:c=false→B):aC c A B:=by cases c with
 | true=>exact h1 rfl
 | false=>exact h2 rfl
theorem AN4 {c:Bool} {A B:Prop} (h1:c=false→A) (h2:c=true→B):aC (!c) A B:=by cases c with
 | true=>exact h2 rfl
 | false=>exact h1 rfl
end Go.Pv
namespace Go.Pv
open Go Go.Proofs
def LU (d:aH):Bool:=decide (d.2.1.length≤1000000)&&decide (d.2.2.1.length≤1000000)
def B0 (d:aH) (t:T):Option T:=match okD d&&okK d&&LU d with
 | true=>some t
 | false=>none
theorem B1 {d:aH} {t r:T} (h:B0 d t=some r):okD d=true∧okK d=true∧(d.2.1.length≤1000000∧d.2.2.1.length≤1000000)∧r=t:=by
 unfold B0 at h;split at h
 ·rename_i hc
  simp only[LU,Bool.and_eq_true,decide_eq_true_eq] at hc
  cases h;exact ⟨hc.1.1,hc.1.2,hc.2,rfl⟩
 ·cases h
theorem Y6 {d:aH} (t:T) (h1:okD d=true) (h2:okK d=true) (h3:LU d=true):B0 d t=some t:=by unfold B0;rw[h1,h2,h3];rfl
theorem PE {d:aH} {n:Int} (h:uZ d n=true) (hn:n≤1000000):LU d=true:=by
 simp only[uZ,Bool.and_eq_true,decide_eq_true_eq] at h
 simp only[LU,Bool.and_eq_true,decide_eq_true_eq]
 omega
def qP (l:List ByteArray) (x:ByteArray):Bool:=l.any fun y=>decide (y=x)
def LZ (x:List ByteArray×ByteArray):Option T:=some (Sh.enc r_b (qP x.1 x.2))
def inN (d:aH) (node:ByteArray) (p:bI):Bool:=qP (up d (yE p)).1 node
def dH (d:aH):List ByteArray:=(d.2.1.filter fun n=>decide (n.2.1=1)).map fun n=>n.1
def fQ (d:aH) (node:ByteArray):List ByteArray:=(d.2.2.1.filter (inN d node)).map fun p=>p.1
def BQ (l:List ByteArray):ByteArray:=l.getLastD ⟨#[]⟩
def o0 (d:aH) (id:ByteArray):ByteArray×Bool:=if (up d id).2=true then (BQ (up d id).1,true) else (⟨#[]⟩,false)
def bQ (d:aH) (id:ByteArray):ByteArray×Bool:=match bD d id with
 | some _=>o0 d id
 | none=>match partOf d id with
  | some p=>o0 d (yE p)
  | none=>match kK d id with
   | some k=>(match bD d k.2.1 with
    | some n=>if n.2.1=1 then (k.2.1,true) else (⟨#[]⟩,false)
    | none=>(⟨#[]⟩,false))
   | none=>(⟨#[]⟩,false)
theorem fC {α:Type} (no x:α):found no (some x)=(x,true):=rfl
theorem fB {α:Type} (no:α):found no none=(no,false):=rfl
abbrev vM:Sh:=[(false,.str),(false,.bool)]
def FA (x:aH):Option T:=B0 x (Sh.enc GR (dH x))
def FI (x:aH×ByteArray):Option T:=B0 x.1 (Sh.enc GR (fQ x.1 x.2))
def CW (x:aH×ByteArray):Option T:=B0 x.1 (Sh.enc vM (bQ x.1 x.2))
abbrev z6:=CW
noncomputable def PW:Env:=Env.of []
def AED:FuncId→Hint:=fun f=>match f == 14 with|true=>⟨fun r=>match r == 2 with|true=>.inv [.val 5 false (.int .i64)]|false=>.none,fun _ _=>none,fun _=>none⟩|false=>aU
theorem AFX:aG Tryz.prog PW:=aG.nil _
def QI (a0:List ByteArray) (a1:ByteArray) (R:T→Prop):Prop :=
 a8 (Int×PUnit)
 (fun (X0:Int×PUnit→Prop) (s1:Int×PUnit) =>
 aC (decide (s1.1<(↑(List.map Sy.str.enc a0).length:Int)))
 (aQ Sy.str (List.map Sy.str.enc a0) s1.1 fun (y2:ByteArray) =>
 aC (decide (y2=a1)) (R (T.v (.bool true))) (X0 (IntKind.i64.wrap (s1.1+1),())))
 (R (T.v (.bool false))))
 (0,())
theorem AA1 ( a0 a1 R):bK aV Tryz.prog PW AED 8 14 [aB false Sy.str.li a0,aB false Sy.str a1] R=QI a0 a1 R:=by kernel_rfl
abbrev HA:Sh:=[(false,Sy.str.li),(false,Sy.str)]
noncomputable def cJ:List T→Option (T):=gS HA LZ
theorem rV {a0 a1}:cJ [T.sl false (List.map Sy.str.enc a0),T.v (.string a1)]=LZ (a0,a1):=a7 (s:=HA) rfl (a0,a1) rfl
theorem ALU (h:∀ a0 a1 r,LZ (a0,a1)=some r→cD HA (a0,a1)→QI a0 a1 (fun y=>y=r)):aJ Tryz.prog 14 cJ :=
 aR (E:=PW) (Hs:=AED) AFX aZ a6 (aN rfl) 8 ⟨_,_,Tryz.func14,rfl⟩ rfl fun x r h1 h2=>by
  obtain ⟨a0,a1⟩:=x
  rw[show Sh.bO HA (a0,a1)=[aB false Sy.str.li a0,aB false Sy.str a1] from rfl,AA1]
  exact h a0 a1 r h1 h2
theorem ABF {α:Type} {p:α→Bool} {l:List α} {k:Nat} (h:k<l.length):(l.drop k).any p=(p l[k]||(l.drop (k+1)).any p):=by rw[List.drop_eq_getElem_cons h,List.any_cons]
theorem BA:aJ Tryz.prog 14 cJ:=ALU fun l x r h hb=>by
 cases h
 have hl:l.length≤2 ^ 47:=hb.1.1
 unfold QI
 refine aS l.length (fun k s=>s=((k:Int),())∧qP l x=(l.drop k).any fun y=>decide (y=x)) ⟨rfl,rfl⟩ ?_
 rintro X k s hk ⟨rfl,he⟩ hX
 dsimp only
 by_cases hlt:k<l.length
 ·rw[ABF hlt] at he
  refine cQ (by simp[hlt]) ?_
  rw[aO (r:=.str) hlt]
  by_cases h1:l[k]=x
  ·refine cQ h1 ?_
   rw[he,decide_eq_true h1];rfl
  ·refine dK h1 (hX _ hlt ⟨by rw[show IntKind.i64.wrap ((k:Int)+1)=((k+1:Nat):Int) from aP _ (by omega) (by omega)],?_⟩)
   rw[he,decide_eq_false h1,Bool.false_or]
 ·have:k=l.length:=by omega
  subst this
  refine dK (by simp) ?_
  rw[he,List.drop_length];rfl
theorem J9 {α:Type} {c:α→Bool} {f:α→ByteArray} {l:List α} {k:Nat} (hk:k<l.length) (hc:c l[k]=true):((l.take (k+1)).filter c).map f=((l.take k).filter c).map f++[f l[k]]:=by
 rw[List.take_succ_eq_append_getElem hk,List.filter_append];simp[hc]
theorem RP {α:Type} {c:α→Bool} {f:α→ByteArray} {l:List α} {k:Nat} (hk:k<l.length) (hc:c l[k]=false):((l.take (k+1)).filter c).map f=((l.take k).filter c).map f:=by
 rw[List.take_succ_eq_append_getElem hk,List.filter_append];simp[hc]
theorem WO {α:Type} {c:α→Bool} {f:α→ByteArray} {l:List α} {k:Nat}:(((l.take k).filter c).map f).length≤k:=by
 have:=List.length_filter_le c (l.take k);simp at this ⊢;omega
noncomputable def HK:Env:=Env.of []
def U8:FuncId→Hint:=fun f=>match f == 11 with|true=>⟨fun r=>match r == 2 with|true=>.inv [.own 2 1 .str,.val 8 false (.int .i64)]|false=>.none,fun _ _=>none,fun _=>none⟩|false=>aU
theorem AAB:aG Tryz.prog HK:=aG.nil _
def H9 (a0:aH) (R:T→Prop):Prop :=
 a8 (List ByteArray×Int×PUnit)
 (fun (X0:List ByteArray×Int×PUnit→Prop) (s1:List ByteArray×Int×PUnit) =>
 aC (decide (s1.2.1<(↑(List.map bM.enc a0.2.1).length:Int)))
 (aQ bM (List.map bM.enc a0.2.1) s1.2.1 fun (y2:cW) =>
 aC (decide (y2.2.1=1))
 (cL
 (decide (((List.map Sy.str.enc s1.1).length+1)*16≤140737488355328) &&
 decide ((List.map Sy.str.enc s1.1).length+1≤140737488355328))
 (bH Sy.str (List.map Sy.str.enc s1.1++[[T.v (.string y2.1)]])
 fun (y3:List ByteArray)=>X0 (y3,IntKind.i64.wrap (s1.2.1+1),())))
 (bH Sy.str (List.map Sy.str.enc s1.1) fun (y4:List ByteArray) =>
 X0 (y4,IntKind.i64.wrap (s1.2.1+1),())))
 (R (T.sl false (List.map Sy.str.enc s1.1))))
 ([],0,())
theorem UJ ( a0 R):bK aV Tryz.prog HK U8 8 11 [aB true aE a0] R=H9 a0 R:=by kernel_rfl
abbrev CC:Sh:=[(true,aE)]
noncomputable def qI:List T→Option (T):=gS CC FA
theorem W9 {a0}:qI [aB true aE a0]=FA (a0):=a7 (s:=CC) rfl (a0) rfl
theorem AH1 (h:∀ a0 r,FA (a0)=some r→cD CC (a0)→H9 a0 (fun y=>y=r)):aJ Tryz.prog 11 qI :=
 aR (E:=HK) (Hs:=U8) AAB aZ a6 (aN rfl) 8 ⟨_,_,Tryz.func11,rfl⟩ rfl fun x r h1 h2=>by
  let a0:=x
  rw[show Sh.bO CC (a0)=[aB true aE a0] from rfl,UJ]
  exact h a0 r h1 h2
theorem AG1:aJ Tryz.prog 11 qI:=AH1 fun d r h hb=>by
 obtain ⟨_,_,⟨hl,_⟩,rfl⟩:=B1 h
 replace hl:d.2.1.length≤1000000:=hl
 clear h
 unfold H9
 refine aS d.2.1.length (fun k s=>s=(((d.2.1.take k).filter fun n=>decide (n.2.1=1)).map (fun n=>n.1),(k:Int),())) rfl ?_
 rintro X k s hk rfl hX
 have hlen:=WO (c:=fun (n:cW)=>decide (n.2.1=1)) (f:=fun n=>n.1) (l:=d.2.1) (k:=k)
 dsimp only
 by_cases hlt:k<d.2.1.length
 ·have hw:IntKind.i64.wrap ((k:Int)+1)=((k+1:Nat):Int):=aP _ (by omega) (by omega)
  refine cQ (by simp[hlt]) ?_
  rw[aO (r:=bM) hlt]
  by_cases h1:d.2.1[k].2.1=1
  ·refine cQ h1 ?_
   try rw[aO (r:=bM) hlt]
   rw[o4 (by omega),fW]
   exact hX _ hlt (by rw[J9 hlt (by simp[h1]),hw])
  ·refine dK h1 ?_
   rw[eV (r:=.str) rfl]
   exact hX _ hlt (by rw[RP hlt (by simp[h1]),hw])
 ·have:k=d.2.1.length:=by omega
  subst this
  refine dK (by simp) ?_
  rw[List.take_length];rfl
theorem zG {d:aH} (id0:ByteArray) {N:Prop} {Fd:ByteArray→List ByteArray→Prop} (hN:up d id0=([],false)→N) (hF:∀ id' l',l'.length<65→up d id0=(l'++[id'],true)→Fd id' l') :
  a8 (ByteArray×List ByteArray×Int×PUnit) (fun (X:ByteArray×List ByteArray×Int×PUnit→Prop) (s:ByteArray×List ByteArray×Int×PUnit) =>
   aC (decide (s.2.2.1<65))
    (aI [(true,bM),(false,Sy.bool)] (fO [aB true aE d,T.v (.string s.1)]) fun (y:cW×Bool) =>
     aC (!y.2) N (cL (decide (((List.map Sy.str.enc s.2.1).length+1)*16≤140737488355328)&&decide ((List.map Sy.str.enc s.2.1).length+1≤140737488355328))
      (aC (decide (y.1.2.1=1)) (Fd s.1 s.2.1) (bH Sy.str (List.map Sy.str.enc s.2.1++[[T.v (.string s.1)]]) fun (y7:List ByteArray)=>X (y.1.2.2,y7,IntKind.i64.wrap (s.2.2.1+1),())))))
    N) (id0,[],0,()):=by
 refine aS 65 (fun k s=>∃ id' l',s=(id',l',(k:Int),())∧l'.length=k∧PN d (65-k) id' l'=up d id0) ⟨id0,[],rfl,rfl,rfl⟩ ?_
 rintro X k s hk ⟨id',l',rfl,hl,hu⟩ hX
 dsimp only
 by_cases hlt:k<65
 ·have h1:(k:Int)<65:=by omega
  obtain ⟨m,hm⟩:∃ m,65-k=m+1:=⟨64-k,by omega⟩
  rw[hm] at hu
  simp only[PN] at hu
  refine cQ h1 ?_
  refine aF (s:=[(true,bM),(false,.bool)]) (y:=found sY (bD d id')) wL ?_
  cases hn:bD d id' with
  | none=>simp only[hn] at hu;simp only[found,Bool.not_false,dF];exact hN hu.symm
  | some x =>
   simp only[hn] at hu
   simp only[found,Bool.not_true,dE]
   rw[o4 (by omega),fW]
   by_cases hx:x.2.1=1
   ·rw[if_pos hx] at hu
    exact cQ hx (hF _ _ (by omega) hu.symm)
   ·rw[if_neg hx] at hu
    refine dK hx (hX _ hlt ⟨x.2.2,l'++[id'],?_,by simp[hl],by rw[←hu];congr 1;omega⟩)
    simp only[Prod.mk.injEq,and_true,true_and]
    exact aP _ (by omega) (by omega)
 ·have h1:¬ (k:Int)<65:=by omega
  have:65-k=0:=by omega
  rw[this] at hu
  exact dK h1 (hN hu.symm)
theorem ATM {d:aH} {id:ByteArray} (h:(up d id).2=true):(up d id).1≠[]:=by
 have key:∀ n id l,(PN d n id l).2=true→(PN d n id l).1≠[]:=by
  intro n
  induction n with
  | zero=>intro id l h;simp[PN] at h
  | succ n ih =>
   intro id l h
   simp only[PN] at h ⊢
   cases hn:bD d id with
   | none=>simp[hn] at h
   | some x =>
    simp only[hn] at h ⊢
    by_cases hx:x.2.1=1
    ·simp[hx]
    ·simp only[hx,if_false] at h ⊢;exact ih _ _ h
 exact key _ _ _ h
theorem XZ {l:List ByteArray} (hl:l.length≤65) (h0:l≠[]) (K:ByteArray→Prop):aQ Sy.str (List.map Sy.str.enc l) (IntKind.i64.wrap (((List.map Sy.str.enc l).length:Int)-1)) K=K (BQ l):=by
 have hpos:0<l.length:=List.length_pos_iff.2 h0
 have e:IntKind.i64.wrap (((List.map Sy.str.enc l).length:Int)-1)=((l.length-1:Nat):Int):=by
  rw[List.length_map,aP _ (by omega) (by omega)];omega
 rw[e,aO (r:=.str) (by omega)]
 have:BQ l=l[l.length-1]'(by omega):=by
  unfold BQ
  rw[List.getLastD_eq_getLast?,List.getLast?_eq_getElem?,List.getElem?_eq_getElem (by omega)]
  rfl
 rw[←this]
noncomputable def C3:Env:=Env.of [(41,.pure bV),(85,.pure c9),(89,.pure hU),(80,.pure BI)]
def NF:FuncId→Hint:=fun _=>aU
theorem TX:aG Tryz.prog C3:=aG.cons (x:=.pure bV) j4 (aG.cons (x:=.pure c9) wJ (aG.cons (x:=.pure hU) OB (aG.cons (x:=.pure BI) AKP (aG.nil _))))
def DN (a0:aH) (a1:ByteArray) (R:T→Prop):Prop :=
 aI [(true,bM),(false,Sy.bool)]
 (bV [aB true aE a0,T.v (.string a1)]) fun (y0:cW×Bool) =>
 aC (!y0.2)
 (aI [(true,bB),(false,Sy.bool)]
 (c9 [aB true aE a0,T.v (.string a1)])
 fun (y1:bI×Bool) =>
 aC y1.2
 (aI [(false,Sy.str.li),(false,Sy.bool)]
 (BI [aB true aE a0,T.v (.string y1.1.2.2.2.1)])
 fun (y2:List ByteArray×Bool) =>
 aC (!y2.2)
 (R (T.cA [T.v (.string { data:=#[] }),T.v (.bool false)]))
 (aQ Sy.str (List.map Sy.str.enc y2.1)
 (IntKind.i64.wrap ((↑(List.map Sy.str.enc y2.1).length:Int)-1)) fun (y3:ByteArray) =>
 R (T.cA [T.v (.string y3),T.v (.bool true)])))
 (aI [(true,aX),(false,Sy.bool)]
 (hU [aB true aE a0,T.v (.string a1)])
 fun (y4:bZ×Bool) =>
 aC y4.2
 (aI [(true,bM),(false,Sy.bool)]
 (bV [aB true aE a0,T.v (.string y4.1.2.1)])
 fun (y5:cW×Bool) =>
 aC (!y5.2)
 (R (T.cA [T.v (.string { data:=#[] }),T.v (.bool false)]))
 (aC (!decide (y5.1.2.1=1))
 (R (T.cA [T.v (.string { data:=#[] }),T.v (.bool false)]))
 (R (T.cA [T.v (.string y4.1.2.1),T.v (.bool true)]))))
 (R (T.cA [T.v (.string { data:=#[] }),T.v (.bool false)]))))
 (aI [(false,Sy.str.li),(false,Sy.bool)]
 (BI [aB true aE a0,T.v (.string a1)])
 fun (y6:List ByteArray×Bool) =>
 aC (!y6.2)
 (R (T.cA [T.v (.string { data:=#[] }),T.v (.bool false)]))
 (aQ Sy.str (List.map Sy.str.enc y6.1)
 (IntKind.i64.wrap ((↑(List.map Sy.str.enc y6.1).length:Int)-1)) fun (y7:ByteArray) =>
 R (T.cA [T.v (.string y7),T.v (.bool true)])))
theorem QA ( a0 a1 R):bK aV Tryz.prog C3 NF 8 124 [aB true aE a0,aB false Sy.str a1] R=DN a0 a1 R:=by kernel_rfl
abbrev wT:Sh:=[(true,aE),(false,Sy.str)]
noncomputable def gP:List T→Option (T):=gS wT z6
theorem RV {a0 a1}:gP [aB true aE a0,T.v (.string a1)]=z6 (a0,a1):=a7 (s:=wT) rfl (a0,a1) rfl
theorem AC6 (h:∀ a0 a1 r,z6 (a0,a1)=some r→cD wT (a0,a1)→DN a0 a1 (fun y=>y=r)):aJ Tryz.prog 124 gP :=
 aR (E:=C3) (Hs:=NF) TX aZ a6 (aN rfl) 8 ⟨_,_,Tryz.func124,rfl⟩ rfl fun x r h1 h2=>by
  obtain ⟨a0,a1⟩:=x
  rw[show Sh.bO wT (a0,a1)=[aB true aE a0,aB false Sy.str a1] from rfl,QA]
  exact h a0 a1 r h1 h2
theorem ABY:aJ Tryz.prog 124 gP:=AC6 fun d id r h hb=>by
 obtain ⟨hok,hok2,_,rfl⟩:=B1 h
 clear h
 have top:∀ at0,bQ d id=o0 d at0→aC (!(up d at0).2) (T.cA [T.v (.string { data:=#[] }),T.v (.bool false)]=Sh.enc vM (bQ d id)) (aQ Sy.str (List.map Sy.str.enc (up d at0).1) (IntKind.i64.wrap (((List.map Sy.str.enc (up d at0).1).length:Int)-1)) fun (y3:ByteArray)=>T.cA [T.v (.string y3),T.v (.bool true)]=Sh.enc vM (bQ d id)):=by
  intro at0 he
  rw[he]
  unfold o0
  refine AN4 (fun h=>?_) (fun h=>?_)
  ·rw[h];rfl
  ·rw[XZ (TS d at0) (ATM h),if_pos h];rfl
 unfold DN
 simp only[oN,jL,fS,p0,u9,kR,mH,yF,SD,ZN,O4]
 cases hn:bD d id with
 | some x=>simp only[fC,fB,Bool.not_true,dE];exact top id (by simp[bQ,hn])
 | none =>
  simp only[fC,fB,Bool.not_false,dF]
  cases hp:partOf d id with
  | some p=>simp only[fC,dF];exact top (yE p) (by simp[bQ,hn,hp])
  | none =>
   simp only[fB,dE]
   refine aF (s:=[(true,aX),(false,.bool)]) (y:=found noPack (kK d id)) F3 ?_
   cases hk:kK d id with
   | none=>simp only[fC,fB,dE];simp[bQ,hn,hp,hk,Sh.enc,Sh.bO,aB,Sy.enc,M5]
   | some k =>
    simp only[fC,fB,dF]
    rcases Option.eq_none_or_eq_some (bD d k.2.1) with hm|⟨m,hm⟩
    ·simp only[hm,fC,fB,Bool.not_false,dF];simp[bQ,hn,hp,hk,hm,Sh.enc,Sh.bO,aB,Sy.enc,M5]
    ·simp only[hm,fC,fB,Bool.not_true,dE]
     by_cases hx:m.2.1=1
     ·refine wO hx ?_
      simp[bQ,hn,hp,hk,hm,hx,Sh.enc,Sh.bO,aB,Sy.enc,M5]
     ·refine BO hx ?_
      simp[bQ,hn,hp,hk,hm,hx,Sh.enc,Sh.bO,aB,Sy.enc,M5]
noncomputable def PS:Env:=Env.of [(39,.pure fO),(18,.pure mC),(40,.pure ER)]
def AD9:FuncId→Hint:=fun f=>match f == 38 with|true=>⟨fun r=>match r == 3 with|true=>.inv [.val 1 false .str,.own 6 1 .str,.val 9 false (.int .i64)]|false=>.none,fun _ _=>none,fun _=>none⟩|false=>aU
theorem AFT:aG Tryz.prog PS:=aG.cons (x:=.pure fO) RR (aG.cons (x:=.pure mC) WZ (aG.cons (x:=.pure ER) ANV (aG.nil _)))
def P9 (a0:aH) (a1:ByteArray) (R:T→Prop):Prop :=
 aI [(true,bM),(false,Sy.bool)]
 (fO [aB true aE a0,T.v (.string a1)]) fun (y0:cW×Bool) =>
 aC (!y0.2)
 (aI [(true,bB),(false,Sy.bool)]
 (mC [aB true aE a0,T.v (.string a1)])
 fun (y1:bI×Bool) =>
 aC y1.2
 (a8 (ByteArray×List ByteArray×Int×PUnit)
 (fun (X2:ByteArray×List ByteArray×Int×PUnit→Prop) (s3:ByteArray×List ByteArray×Int×PUnit) =>
 aC (decide (s3.2.2.1<65))
 (aI [(true,bM),(false,Sy.bool)]
 (fO [aB true aE a0,T.v (.string s3.1)])
 fun (y4:cW×Bool) =>
 aC (!y4.2)
 (R (T.cA [T.v (.string { data:=#[] }),T.v (.bool false)]))
 (cL
 (decide (((List.map Sy.str.enc s3.2.1).length+1)*16≤140737488355328) &&
 decide ((List.map Sy.str.enc s3.2.1).length+1≤140737488355328))
 (aC (decide (y4.1.2.1=1))
 (aQ Sy.str
 (List.map Sy.str.enc s3.2.1++[[T.v (.string s3.1)]])
 (IntKind.i64.wrap
 ((↑(List.map Sy.str.enc s3.2.1++[[T.v (.string s3.1)]]).length :
 Int) -
 1))
 fun (y5:ByteArray) =>
 l6 Sy.str
 (List.map Sy.str.enc s3.2.1++[[T.v (.string s3.1)]])
 (IntKind.i64.wrap
 ((↑(List.map Sy.str.enc s3.2.1 ++
 [[T.v (.string s3.1)]]).length :
 Int) -
 1)).toNat
 0 fun (y6:ByteArray) =>
 R (T.cA [T.v (.string y6),T.v (.bool true)]))
 (bH Sy.str
 (List.map Sy.str.enc s3.2.1++[[T.v (.string s3.1)]])
 fun (y7:List ByteArray) =>
 X2 (y4.1.2.2,y7,IntKind.i64.wrap (s3.2.2.1+1),())))))
 (R (T.cA [T.v (.string { data:=#[] }),T.v (.bool false)])))
 (y1.1.2.2.2.1,[],0,()))
 (aI [(true,aX),(false,Sy.bool)]
 (ER [aB true aE a0,T.v (.string a1)])
 fun (y8:bZ×Bool) =>
 aC y8.2
 (aI [(true,bM),(false,Sy.bool)]
 (fO [aB true aE a0,T.v (.string y8.1.2.1)])
 fun (y9:cW×Bool) =>
 aC (!y9.2)
 (R (T.cA [T.v (.string { data:=#[] }),T.v (.bool false)]))
 (aC (!decide (y9.1.2.1=1))
 (R (T.cA [T.v (.string { data:=#[] }),T.v (.bool false)]))
 (R (T.cA [T.v (.string y8.1.2.1),T.v (.bool true)]))))
 (R (T.cA [T.v (.string { data:=#[] }),T.v (.bool false)]))))
 (a8 (ByteArray×List ByteArray×Int×PUnit)
 (fun (X10:ByteArray×List ByteArray×Int×PUnit→Prop) (s11:ByteArray×List ByteArray×Int×PUnit) =>
 aC (decide (s11.2.2.1<65))
 (aI [(true,bM),(false,Sy.bool)]
 (fO [aB true aE a0,T.v (.string s11.1)])
 fun (y12:cW×Bool) =>
 aC (!y12.2)
 (R (T.cA [T.v (.string { data:=#[] }),T.v (.bool false)]))
 (cL
 (decide (((List.map Sy.str.enc s11.2.1).length+1)*16≤140737488355328) &&
 decide ((List.map Sy.str.enc s11.2.1).length+1≤140737488355328))
 (aC (decide (y12.1.2.1=1))
 (aQ Sy.str
 (List.map Sy.str.enc s11.2.1++[[T.v (.string s11.1)]])
 (IntKind.i64.wrap
 ((↑(List.map Sy.str.enc s11.2.1++[[T.v (.string s11.1)]]).length :
 Int) -
 1))
 fun (y13:ByteArray) =>
 l6 Sy.str
 (List.map Sy.str.enc s11.2.1++[[T.v (.string s11.1)]])
 (IntKind.i64.wrap
 ((↑(List.map Sy.str.enc s11.2.1++[[T.v (.string s11.1)]]).length :
 Int) -
 1)).toNat
 0 fun (y14:ByteArray) =>
 R (T.cA [T.v (.string y14),T.v (.bool true)]))
 (bH Sy.str
 (List.map Sy.str.enc s11.2.1++[[T.v (.string s11.1)]])
 fun (y15:List ByteArray) =>
 X10 (y12.1.2.2,y15,IntKind.i64.wrap (s11.2.2.1+1),())))))
 (R (T.cA [T.v (.string { data:=#[] }),T.v (.bool false)])))
 (a1,[],0,()))
theorem AAX ( a0 a1 R):bK aV Tryz.prog PS AD9 8 13 [aB true aE a0,aB false Sy.str a1] R=P9 a0 a1 R:=by kernel_rfl
abbrev G6:Sh:=[(true,aE),(false,Sy.str)]
noncomputable def oM:List T→Option (T):=gS G6 CW
theorem ACK {a0 a1}:oM [aB true aE a0,T.v (.string a1)]=CW (a0,a1):=a7 (s:=G6) rfl (a0,a1) rfl
theorem of_block (h:∀ a0 a1 r,CW (a0,a1)=some r→cD G6 (a0,a1)→P9 a0 a1 (fun y=>y=r)):aJ Tryz.prog 13 oM :=
 aR (E:=PS) (Hs:=AD9) AFT aZ a6 (aN rfl) 8 ⟨_,_,Tryz.func13,rfl⟩ rfl fun x r h1 h2=>by
  obtain ⟨a0,a1⟩:=x
  rw[show Sh.bO G6 (a0,a1)=[aB true aE a0,aB false Sy.str a1] from rfl,AAX]
  exact h a0 a1 r h1 h2
theorem AKI:aJ Tryz.prog 13 oM:=of_block fun d id r h hb=>by
 obtain ⟨hok,hok2,_,rfl⟩:=B1 h
 clear h
 have no:∀ at0,bQ d id=o0 d at0→up d at0=([],false)→T.cA [T.v (.string { data:=#[] }),T.v (.bool false)]=Sh.enc vM (bQ d id):=by
  intro at0 he hu
  rw[he];unfold o0;rw[hu];rfl
 have yes:∀ at0,bQ d id=o0 d at0→∀ id' l',l'.length<65→up d at0=(l'++[id'],true)→aQ Sy.str (List.map Sy.str.enc l'++[[T.v (.string id')]]) (IntKind.i64.wrap ((↑(List.map Sy.str.enc l'++[[T.v (.string id')]]).length:Int)-1)) fun (y5:ByteArray)=>l6 Sy.str (List.map Sy.str.enc l'++[[T.v (.string id')]]) (IntKind.i64.wrap ((↑(List.map Sy.str.enc l'++[[T.v (.string id')]]).length:Int)-1)).toNat 0 fun (y6:ByteArray)=>T.cA [T.v (.string y6),T.v (.bool true)]=Sh.enc vM (bQ d id):=by
  intro at0 he id' l' hl hu
  have hll:(l'++[id']).length≤65:=by simp;omega
  have hne:l'++[id']≠[]:=by simp
  rw[he];unfold o0;rw[hu,WL,XZ hll hne,if_pos rfl]
  have e:(IntKind.i64.wrap ((↑(List.map Sy.str.enc (l'++[id'])).length:Int)-1)).toNat=l'.length:=by
   simp only[List.length_map,List.length_append,List.length_singleton]
   rw[aP _ (by omega) (by omega)];omega
  rw[e,nO (r:=.str) (by simp)]
  simp[BQ,Sh.enc,Sh.bO,aB,Sy.enc,M5]
 unfold P9
 refine aF (s:=[(true,bM),(false,.bool)]) (y:=found sY (bD d id)) wL ?_
 cases hn:bD d id with
 | some x =>
  simp only[fC,fB,Bool.not_true,dE]
  have he:bQ d id=o0 d id:=by simp[bQ,hn]
  exact zG id (no id he) (yes id he)
 | none =>
  simp only[fC,fB,Bool.not_false,dF]
  refine aF (s:=[(true,bB),(false,.bool)]) (y:=found AC5 (partOf d id)) (by rw[KS,rG,hok];rfl) ?_
  cases hp:partOf d id with
  | some p =>
   simp only[fC,fB,dF]
   have he:bQ d id=o0 d (yE p):=by simp[bQ,hn,hp]
   exact zG (yE p) (no _ he) (yes _ he)
  | none =>
   simp only[fC,fB,dE]
   refine aF (s:=[(true,aX),(false,.bool)]) (y:=found noPack (kK d id)) (by rw[AHH,HE,AL3 _ hok2]) ?_
   cases hk:kK d id with
   | none=>simp only[fC,fB,dE];simp[bQ,hn,hp,hk,Sh.enc,Sh.bO,aB,Sy.enc,M5]
   | some k =>
    simp only[fC,fB,dF]
    refine aF (s:=[(true,bM),(false,.bool)]) (y:=found sY (bD d k.2.1)) wL ?_
    cases hm:bD d k.2.1 with
    | none=>simp only[fC,fB,Bool.not_false,dF];simp[bQ,hn,hp,hk,hm,Sh.enc,Sh.bO,aB,Sy.enc,M5]
    | some m =>
     simp only[fC,fB,Bool.not_true,dE]
     by_cases hx:m.2.1=1
     ·refine wO hx ?_
      simp[bQ,hn,hp,hk,hm,hx,Sh.enc,Sh.bO,aB,Sy.enc,M5]
     ·refine BO hx ?_
      simp[bQ,hn,hp,hk,hm,hx,Sh.enc,Sh.bO,aB,Sy.enc,M5]
noncomputable def HY:Env:=Env.of [(39,.pure fO)]
def VM:FuncId→Hint:=fun f=>match f == 12 with|true=>⟨fun r=>match r == 4 with|true=>.inv [.own 4 1 .str,.map 2 .str false .bool,.val 20 false (.int .i64)]|false=>match r == 10 with|true=>.inv [.val 9 false .bool,.val 42 false (.int .i64)]|false=>.none,fun i j=>match i == 8&&j == 14 with|true=>some [.val 9 false .bool,.map 2 .str false .bool]|false=>match i == 8&&j == 8 with|true=>some [.own 11 1 .str]|false=>none,fun _=>none⟩|false=>match f == 38 with|true=>⟨fun r=>match r == 3 with|true=>.inv [.val 1 false .str,.own 6 1 .str,.val 9 false (.int .i64)]|false=>.none,fun _ _=>none,fun _=>none⟩|false=>aU
theorem AAP:aG Tryz.prog HY:=aG.cons (x:=.pure fO) RR (aG.nil _)
def IQ (a0:aH) (a1:ByteArray) (R:T→Prop):Prop :=
 x6 Sy.str false Sy.bool [] fun (y0:List (ByteArray×Bool)) =>
 a8 (List ByteArray×List (ByteArray×Bool)×Int×PUnit)
 (fun (X1:List ByteArray×List (ByteArray×Bool)×Int×PUnit→Prop)
 (s2:List ByteArray×List (ByteArray×Bool)×Int×PUnit) =>
 aC (decide (s2.2.2.1<(↑(List.map bB.enc a0.2.2.1).length:Int)))
 (aQ bB (List.map bB.enc a0.2.2.1) s2.2.2.1 fun (y3:bI) =>
 AKG TypeDesc.string (Value.string y3.2.2.2.1)
 (List.map (oA Sy.str false Sy.bool) s2.2.1) false Sy.bool
 (OK (List ByteArray×PUnit)
 (fun (X10:List ByteArray×PUnit→Prop) =>
 a8 (ByteArray×List ByteArray×Int×PUnit)
 (fun (X11:ByteArray×List ByteArray×Int×PUnit→Prop)
 (s12:ByteArray×List ByteArray×Int×PUnit) =>
 aC (decide (s12.2.2.1<65))
 (aI [(true,bM),(false,Sy.bool)]
 (fO [aB true aE a0,T.v (.string s12.1)])
 fun (y13:cW×Bool) =>
 aC (!y13.2) (X10 ([],()))
 (cL
 (decide (((List.map Sy.str.enc s12.2.1).length+1)*16≤140737488355328) &&
 decide ((List.map Sy.str.enc s12.2.1).length+1≤140737488355328))
 (aC (decide (y13.1.2.1=1))
 (bH Sy.str
 (List.map Sy.str.enc s12.2.1++[[T.v (.string s12.1)]])
 fun (y14:List ByteArray)=>X10 (y14,()))
 (bH Sy.str
 (List.map Sy.str.enc s12.2.1++[[T.v (.string s12.1)]])
 fun (y15:List ByteArray) =>
 X11 (y13.1.2.2,y15,IntKind.i64.wrap (s12.2.2.1+1),())))))
 (X10 ([],())))
 (y3.2.2.2.1,[],0,()))
 fun (s16:List ByteArray×PUnit) =>
 a8 (Bool×Int×PUnit)
 (fun (X17:Bool×Int×PUnit→Prop) (s18:Bool×Int×PUnit) =>
 aC (decide (s18.2.1<(↑(List.map Sy.str.enc s16.1).length:Int)))
 (aQ Sy.str (List.map Sy.str.enc s16.1) s18.2.1 fun (y19:ByteArray) =>
 l6 Sy.str (List.map Sy.str.enc s16.1) (Int.toNat s18.2.1) 0
 fun (y20:ByteArray) =>
 aC s18.1 (X17 (true,IntKind.i64.wrap (s18.2.1+1),()))
 (X17 (decide (y20=a1),IntKind.i64.wrap (s18.2.1+1),())))
 (AOW (Option (Nat×D))
 (findD TypeDesc.string (Value.string y3.2.2.2.1)
 (List.map (oA Sy.str false Sy.bool) s2.2.1) 0)
 fun (y21:Option (Nat×D)) =>
 aC s18.1
 (cL
 (decide (((List.map Sy.str.enc s2.1).length+1)*16≤140737488355328) &&
 decide ((List.map Sy.str.enc s2.1).length+1≤140737488355328))
 (bH Sy.str
 (List.map Sy.str.enc s2.1++[[T.v (.string y3.1)]])
 fun (y22:List ByteArray) =>
 x6 Sy.str false Sy.bool
 (nS (List.map (oA Sy.str false Sy.bool) s2.2.1) y21
 (Value.string y3.2.2.2.1) (D.p (T.v (.bool s18.1))))
 fun (y23:List (ByteArray×Bool)) =>
 X1 (y22,y23,IntKind.i64.wrap (s2.2.2.1+1),())))
 (bH Sy.str (List.map Sy.str.enc s2.1) fun (y24:List ByteArray) =>
 x6 Sy.str false Sy.bool
 (nS (List.map (oA Sy.str false Sy.bool) s2.2.1) y21
 (Value.string y3.2.2.2.1) (D.p (T.v (.bool s18.1))))
 fun (y25:List (ByteArray×Bool)) =>
 X1 (y24,y25,IntKind.i64.wrap (s2.2.2.1+1),()))))
 (false,0,()))
 fun (i4:Nat) (y5:Bool) =>
 aC y5
 (cL
 (decide (((List.map Sy.str.enc s2.1).length+1)*16≤140737488355328) &&
 decide ((List.map Sy.str.enc s2.1).length+1≤140737488355328))
 (bH Sy.str (List.map Sy.str.enc s2.1++[[T.v (.string y3.1)]])
 fun (y6:List ByteArray) =>
 x6 Sy.str false Sy.bool
 (List.map (oA Sy.str false Sy.bool) s2.2.1)
 fun (y7:List (ByteArray×Bool))=>X1 (y6,y7,IntKind.i64.wrap (s2.2.2.1+1),())))
 (bH Sy.str (List.map Sy.str.enc s2.1) fun (y8:List ByteArray) =>
 x6 Sy.str false Sy.bool
 (List.map (oA Sy.str false Sy.bool) s2.2.1)
 fun (y9:List (ByteArray×Bool))=>X1 (y8,y9,IntKind.i64.wrap (s2.2.2.1+1),())))
 (R (T.sl false (List.map Sy.str.enc s2.1))))
 ([],y0,0,())
theorem UY ( a0 a1 R):bK aV Tryz.prog HY VM 8 12 [aB true aE a0,aB false Sy.str a1] R=IQ a0 a1 R:=by kernel_rfl
abbrev CP:Sh:=[(true,aE),(false,Sy.str)]
noncomputable def lH:List T→Option (T):=gS CP FI
theorem XM {a0 a1}:lH [aB true aE a0,T.v (.string a1)]=FI (a0,a1):=a7 (s:=CP) rfl (a0,a1) rfl
theorem AIF (h:∀ a0 a1 r,FI (a0,a1)=some r→cD CP (a0,a1)→IQ a0 a1 (fun y=>y=r)):aJ Tryz.prog 12 lH :=
 aR (E:=HY) (Hs:=VM) AAP aZ a6 (aN rfl) 8 ⟨_,_,Tryz.func12,rfl⟩ rfl fun x r h1 h2=>by
  obtain ⟨a0,a1⟩:=x
  rw[show Sh.bO CP (a0,a1)=[aB true aE a0,aB false Sy.str a1] from rfl,UY]
  exact h a0 a1 r h1 h2
theorem AHB:aJ Tryz.prog 12 lH:=AIF fun d node r h hb=>by
 obtain ⟨_,_,⟨_,hl⟩,rfl⟩:=B1 h
 replace hl:d.2.2.1.length≤1000000:=hl
 clear h
 unfold IQ
 refine uW (r:=.bool) rfl [] _ ?_
 refine aS d.2.2.1.length (fun k s=>∃ es,s=(((d.2.2.1.take k).filter (inN d node)).map (fun n=>n.1),es,(k:Int),())∧∀ id b,gE es id=some b→b=qP (up d id).1 node) ⟨[],rfl,fun id b h=>by cases h⟩ ?_
 rintro X k s hk ⟨es,rfl,hes⟩ hX
 have hlen:=WO (c:=inN d node) (f:=fun n=>n.1) (l:=d.2.2.1) (k:=k)
 dsimp only
 by_cases hlt:k<d.2.2.1.length
 ·have hw:IntKind.i64.wrap ((k:Int)+1)=((k+1:Nat):Int):=aP _ (by omega) (by omega)
  refine cQ (by simp[hlt]) ?_
  rw[aO (r:=bB) hlt]
  generalize hpe:d.2.2.1[k]=p
  refine ANS (r:=.bool) (fun hno=>?_) (fun i v hv=>?_)
  ·rw[OL]
   have go:∀ ls,ls=(up d (yE p)).1→ls.length≤65→a8 (Bool×Int×PUnit) (fun (X17:Bool×Int×PUnit→Prop) (s18:Bool×Int×PUnit)=>aC (decide (s18.2.1<(↑(List.map Sy.str.enc ls).length:Int)))
      (aQ Sy.str (List.map Sy.str.enc ls) s18.2.1 fun (y19:ByteArray)=>l6 Sy.str (List.map Sy.str.enc ls) (Int.toNat s18.2.1) 0 fun (y20:ByteArray)=>aC s18.1 (X17 (true,IntKind.i64.wrap (s18.2.1+1),())) (X17 (decide (y20=node),IntKind.i64.wrap (s18.2.1+1),())))
      (AOW (Option (Nat×D)) (findD TypeDesc.string (Value.string p.2.2.2.1) (List.map (oA Sy.str false Sy.bool) es) 0) fun (y21:Option (Nat×D)) =>
       aC s18.1 (cL (decide (((List.map Sy.str.enc (((d.2.2.1.take k).filter (inN d node)).map (fun n=>n.1))).length+1)*16≤140737488355328)&&decide ((List.map Sy.str.enc (((d.2.2.1.take k).filter (inN d node)).map (fun n=>n.1))).length+1≤140737488355328))
         (bH Sy.str (List.map Sy.str.enc (((d.2.2.1.take k).filter (inN d node)).map (fun n=>n.1))++[[T.v (.string p.1)]]) fun (y22:List ByteArray)=>x6 Sy.str false Sy.bool (nS (List.map (oA Sy.str false Sy.bool) es) y21 (Value.string p.2.2.2.1) (D.p (T.v (.bool s18.1)))) fun (y23:List (ByteArray×Bool))=>X (y22,y23,IntKind.i64.wrap ((k:Int)+1),())))
        (bH Sy.str (List.map Sy.str.enc (((d.2.2.1.take k).filter (inN d node)).map (fun n=>n.1))) fun (y24:List ByteArray)=>x6 Sy.str false Sy.bool (nS (List.map (oA Sy.str false Sy.bool) es) y21 (Value.string p.2.2.2.1) (D.p (T.v (.bool s18.1)))) fun (y25:List (ByteArray×Bool))=>X (y24,y25,IntKind.i64.wrap ((k:Int)+1),()))))
     (false,0,()):=by
    intro ls hls hll
    have hin:inN d node p=qP ls node:=by rw[hls];rfl
    refine aS ls.length (fun j s=>s=(qP (ls.take j) node,(j:Int),())) (by simp[qP]) ?_
    rintro Y j s hj rfl hY
    dsimp only
    by_cases hlj:j<ls.length
    ·refine cQ (by simp[hlj]) ?_
     have hs:qP (ls.take (j+1)) node=(qP (ls.take j) node||decide (ls[j]=node)):=by
      unfold qP;rw[List.take_succ_eq_append_getElem hlj,List.any_append];simp
     have hj1:IntKind.i64.wrap ((j:Int)+1)=((j+1:Nat):Int):=aP _ (by omega) (by omega)
     rw[aO (r:=.str) hlj,Int.toNat_natCast,nO (r:=.str) hlj]
     refine AKX (fun hf=>hY _ hlj ?_) (fun hf=>hY _ hlj ?_)
     ·rw[hs,hf,hj1];rfl
     ·rw[hs,hf,hj1];rfl
    ·have:j=ls.length:=by omega
     subst this
     refine dK (by simp) ?_
     rw[List.take_length]
     have hes':∀ id b,gE (vD es p.2.2.2.1 (qP ls node)) id=some b→b=qP (up d id).1 node:=by
      intro id b hb
      rw[qM] at hb
      split at hb
      ·rename_i e;cases hb;rw[←e,hls]
      ·exact hes id b hb
     have ins:=fun (K:List (ByteArray×Bool)→Prop) (hK:K (vD es p.2.2.2.1 (qP ls node)))=>AST (r:=.bool) rfl (es:=es) (k:=p.2.2.2.1) (v:=qP ls node) hK
     rcases hb2:qP ls node with _|_
     ·rw[hb2] at ins hes' hin
      obtain ⟨y,h1,h2⟩:=ins (fun es'=>X (((d.2.2.1.take k).filter (inN d node)).map (fun n=>n.1),es',IntKind.i64.wrap ((k:Int)+1),())) (hX _ hlt ⟨_,by rw[RP hlt (by rw[hpe];exact hin),hw],hes'⟩)
      refine ⟨y,h1,?_⟩
      show aC false _ _
      rw[dE,eV (r:=.str) rfl]
      exact h2
     ·rw[hb2] at ins hes' hin
      obtain ⟨y,h1,h2⟩:=ins (fun es'=>X (((d.2.2.1.take k).filter (inN d node)).map (fun n=>n.1)++[p.1],es',IntKind.i64.wrap ((k:Int)+1),())) (hX _ hlt ⟨_,by rw[J9 hlt (by rw[hpe];exact hin),hw,hpe],hes'⟩)
      refine ⟨y,h1,?_⟩
      show aC true _ _
      rw[dF,o4 (by omega),fW]
      exact h2
   refine zG (d:=d) (yE p) (Fd:=fun id' l'=>bH Sy.str (List.map Sy.str.enc l'++[[T.v (.string id')]]) _) (fun hu=>go [] (by rw[hu]) (by simp)) (fun id' l' hl' hu=>?_)
   rw[fW]
   exact go _ (by rw[hu]) (by simp;omega)
  ·have hv':=hes _ _ hv
   refine AKX (fun h1=>?_) (fun h1=>?_)
   ·rw[o4 (by omega),fW]
    exact uW (r:=.bool) rfl es _ (hX _ hlt ⟨es,by rw[J9 hlt (by rw[hpe];exact hv'.symm.trans h1),hw,hpe],hes⟩)
   ·rw[eV (r:=.str) rfl]
    exact uW (r:=.bool) rfl es _ (hX _ hlt ⟨es,by rw[RP hlt (by rw[hpe];exact hv'.symm.trans h1),hw],hes⟩)
 ·have:k=d.2.2.1.length:=by omega
  subst this
  refine dK (by simp) ?_
  rw[List.take_length];rfl
end Go.Pv
namespace Go.Pv
open Go Go.Proofs
def okI (d:aH):Bool:=d.2.1.all (fun n=>AU n.1)&&d.2.2.1.all (fun p=>AU p.1&&AU (dC p))&&d.2.2.2.1.all (fun s=>AU s.1&&(AU s.2.1&&AU s.2.2.1))&&d.2.2.2.2.1.all (fun k=>AU k.1)
def okU (d:aH):Bool:=uZ d 1000&&(okD d&&(okK d&&okI d))
def lZ (d:aH) (t:T):Option T:=match okU d with
 | true=>some t
 | false=>none
theorem iG {d:aH} {t r:T} (h:lZ d t=some r):okU d=true∧r=t:=by
 unfold lZ at h;split at h
 ·rename_i hc
  cases h;exact ⟨hc,rfl⟩
 ·cases h
theorem iH {d:aH} (t:T) (h:okU d=true):lZ d t=some t:=by unfold lZ;rw[h]
structure UOk (d:aH):Prop where
 uZ:uZ d 1000=true
 n:d.2.1.length≤1000
 p:d.2.2.1.length≤1000
 s:d.2.2.2.1.length≤1000
 k:d.2.2.2.2.1.length≤1000
 r:d.2.2.2.2.2.length≤1000
 kl:∀ k∈d.2.2.2.2.1,(fD k).length≤1000∧(dQ k).length≤1000
 okD:okD d=true
 okK:okK d=true
 nI:∀ n∈d.2.1,AU n.1=true
 pI:∀ p∈d.2.2.1,AU p.1=true∧AU (dC p)=true
 sI:∀ s∈d.2.2.2.1,AU s.1=true∧AU s.2.1=true∧AU s.2.2.1=true
 kI:∀ k∈d.2.2.2.2.1,AU k.1=true
theorem kY {d:aH} (h:okU d=true):UOk d:=by
 simp only[okU,okI,Bool.and_eq_true,List.all_eq_true] at h
 obtain ⟨h1,h2,h3,⟨⟨i1,i2⟩,i3⟩,i4⟩:=h
 have h0:=h1
 simp only[uZ,Bool.and_eq_true,List.all_eq_true,decide_eq_true_eq] at h1
 obtain ⟨⟨⟨⟨⟨a,b⟩,c⟩,e⟩,f⟩,g⟩:=h1
 exact ⟨h0,by omega,by omega,by omega,by omega,by omega,fun k hk=>by have:=g k hk;unfold fD dQ;omega,h2,h3,i1,i2,fun s hs=>i3 s hs,i4⟩
theorem AI1 (a b:ByteArray):(!(gL b a||decide (b=a)))=gL a b:=by
 rw[Bool.eq_iff_iff]
 refine ⟨fun h=>(vT a b).2 (AEL h),fun h=>?_⟩
 have h1:=(vT a b).1 h
 have h2:gL b a=false:=by
  rw[Bool.eq_false_iff]
  intro h3
  exact List.lt_irrefl _ (List.lt_trans h1 ((vT b a).1 h3))
 have h3:¬ b=a:=fun e=>by rw[e] at h1;exact List.lt_irrefl _ h1
 rw[h2,decide_eq_false h3];rfl
noncomputable def PR:Env:=Env.of []
def AD8:FuncId→Hint:=fun f=>match f == 77 with|true=>⟨fun r=>match r == 2 with|true=>.inv [.val 3 false (.int .i64)]|false=>.none,fun _ _=>none,fun _=>none⟩|false=>aU
theorem AFS:aG Tryz.prog PR:=aG.nil _
def P8 (a0:List ByteArray) (R:T→Prop):Prop :=
 a8 (Int×PUnit)
 (fun (X0:Int×PUnit→Prop) (s1:Int×PUnit) =>
 aC (decide (s1.1<(↑(List.map Sy.str.enc a0).length:Int)))
 (aQ Sy.str (List.map Sy.str.enc a0) (IntKind.i64.wrap (s1.1-1))
 fun (y2:ByteArray) =>
 aQ Sy.str (List.map Sy.str.enc a0) s1.1 fun (y3:ByteArray) =>
 aC (!gL y2 y3) (R (T.v (.bool false)))
 (X0 (IntKind.i64.wrap (s1.1+1),())))
 (R (T.v (.bool true))))
 (1,())
theorem AAW ( a0 R):bK aV Tryz.prog PR AD8 8 77 [aB false Sy.str.li a0] R=P8 a0 R:=by kernel_rfl
abbrev G5:Sh:=[(false,Sy.str.li)]
def LV (l:List ByteArray):Option T:=LD l (T.v (.bool (AS l)))
noncomputable def fP:List T→Option (T):=gS G5 LV
theorem nE {a0}:fP [T.sl false (List.map Sy.str.enc a0)]=LV (a0):=a7 (s:=G5) rfl (a0) rfl
theorem ALQ (h:∀ a0 r,LV (a0)=some r→cD G5 (a0)→P8 a0 (fun y=>y=r)):aJ Tryz.prog 77 fP :=
 aR (E:=PR) (Hs:=AD8) AFS aZ a6 (aN rfl) 8 ⟨_,_,Tryz.func77,rfl⟩ rfl fun x r h1 h2=>by
  let a0:=x
  rw[show Sh.bO G5 (a0)=[aB false Sy.str.li a0] from rfl,AAW]
  exact h a0 r h1 h2
theorem WQ:aJ Tryz.prog 77 fP:=ALQ fun l r h hb=>by
 obtain ⟨hl,rfl⟩:=LF h
 clear h hb
 unfold P8
 refine aS l.length (fun k s=>s=(((k+1:Nat):Int),())∧AS l=AS (l.drop k)) ⟨rfl,by rw[List.drop_zero]⟩ ?_
 rintro X k s hk ⟨rfl,he⟩ hX
 dsimp only
 have hw:IntKind.i64.wrap (((k+1:Nat):Int)+1)=((k+1+1:Nat):Int):=aP _ (by omega) (by omega)
 have hw1:IntKind.i64.wrap (((k+1:Nat):Int)-1)=((k:Nat):Int):=by rw[aP _ (by omega) (by omega)];omega
 refine cH (fun hlt=>?_) fun hge=>?_
 ·rw[List.length_map] at hlt
  have hlt:k+1<l.length:=by omega
  rw[hw1,aO (r:=.str) (show k<l.length by omega),aO (r:=.str) hlt,hw]
  rw[AJR hlt,AI1] at he
  refine dJ (fun h=>eR ?_) fun h=>hX _ (by omega) ⟨rfl,?_⟩
  ·rw[he,h];rfl
  ·rw[he,h];rfl
 ·rw[List.length_map] at hge
  refine eR ?_
  rw[he,ANG (by omega)]
noncomputable def yL:Env:=Env.of []
def IZ:FuncId→Hint:=fun _=>aU
theorem P0:aG Tryz.prog yL:=aG.nil _
def yU (a0:qC) (a1:qC) (R:T→Prop):Prop :=
 aC (!decide (a0.1=a1.1)) (R (T.v (.bool (decide (a0.1<a1.1)))))
 (aC (!decide (a0.2.1=a1.2.1)) (R (T.v (.bool (gL a0.2.1 a1.2.1))))
 (R (T.v (.bool (gL a0.2.2 a1.2.2)))))
theorem MG ( a0 a1 R):bK aV Tryz.prog yL IZ 8 78 [aB true fT a0,aB true fT a1] R=yU a0 a1 R:=by kernel_rfl
abbrev tE:Sh:=[(true,fT),(true,fT)]
def vU (x:qC×qC):Option T:=some (T.v (.bool (ltN x.1 x.2)))
noncomputable def j5:List T→Option (T):=gS tE vU
theorem MV {a0 a1}:j5 [aB true fT a0,aB true fT a1]=vU (a0,a1):=a7 (s:=tE) rfl (a0,a1) rfl
theorem YQ (h:∀ a0 a1 r,vU (a0,a1)=some r→cD tE (a0,a1)→yU a0 a1 (fun y=>y=r)):aJ Tryz.prog 78 j5 :=
 aR (E:=yL) (Hs:=IZ) P0 aZ a6 (aN rfl) 8 ⟨_,_,Tryz.func78,rfl⟩ rfl fun x r h1 h2=>by
  obtain ⟨a0,a1⟩:=x
  rw[show Sh.bO tE (a0,a1)=[aB true fT a0,aB true fT a1] from rfl,MG]
  exact h a0 a1 r h1 h2
theorem WR:aJ Tryz.prog 78 j5:=YQ fun a b r h hb=>by
 cases h
 unfold yU
 refine mV (fun h=>eR ?_) fun h=>mV (fun h2=>eR ?_) fun h2=>eR ?_
 ·unfold ltN;rw[decide_eq_false h];simp
 ·unfold ltN;rw[decide_eq_true h,decide_eq_false h2];simp[h]
 ·unfold ltN;rw[decide_eq_true h,decide_eq_true h2,h2,show gL b.2.1 b.2.1=false by rw[Bool.eq_false_iff];exact fun h=>List.lt_irrefl _ ((vT _ _).1 h)];simp[h]
noncomputable def DA:Env:=Env.of []
def NM:FuncId→Hint:=fun f=>match f == 76 with|true=>⟨fun r=>match r == 3 with|true=>.inv [.val 4 false (.int .i64),.box 2 (.pr (.li .str) (.pr (.li .str) (.pr (.li .str) (.li .str)))),.qD 2 0 1 .str,.qD 2 1 1 .str,.qD 2 2 1 .str,.qD 2 3 1 .str]|false=>match r == 7 with|true=>.inv [.val 5 false (.int .i64),.box 2 (.pr (.li .str) (.pr (.li .str) (.pr (.li .str) (.li .str)))),.qD 2 0 1 .str,.qD 2 1 1 .str,.qD 2 2 1 .str,.qD 2 3 1 .str]|false=>match r == 11 with|true=>.inv [.val 6 false (.int .i64),.box 2 (.pr (.li .str) (.pr (.li .str) (.pr (.li .str) (.li .str)))),.qD 2 0 1 .str,.qD 2 1 1 .str,.qD 2 2 1 .str,.qD 2 3 1 .str]|false=>match r == 15 with|true=>.inv [.val 7 false (.int .i64),.box 2 (.pr (.li .str) (.pr (.li .str) (.pr (.li .str) (.li .str)))),.qD 2 0 1 .str,.qD 2 1 1 .str,.qD 2 2 1 .str,.qD 2 3 1 .str]|false=>.none,fun _ _=>none,fun _=>none⟩|false=>aU
theorem T4:aG Tryz.prog DA:=aG.nil _
def DU (a0:aH) (R:T→Prop):Prop :=
 bH Sy.str [] fun (y0:List ByteArray) =>
 bH Sy.str [] fun (y1:List ByteArray) =>
 bH Sy.str [] fun (y2:List ByteArray) =>
 bH Sy.str [] fun (y3:List ByteArray) =>
 a8
 (Int ×
 (List ByteArray×List ByteArray×List ByteArray×List ByteArray) ×
 List ByteArray×List ByteArray×List ByteArray×List ByteArray×PUnit)
 (fun
 (X4 :
 Int ×
 (List ByteArray×List ByteArray×List ByteArray×List ByteArray) ×
 List ByteArray×List ByteArray×List ByteArray×List ByteArray×PUnit →
 Prop)
 (s5 :
 Int ×
 (List ByteArray×List ByteArray×List ByteArray×List ByteArray) ×
 List ByteArray×List ByteArray×List ByteArray×List ByteArray×PUnit) =>
 aC (decide (s5.1<(↑(List.map bM.enc a0.2.1).length:Int)))
 (aQ bM (List.map bM.enc a0.2.1) s5.1 fun (y6:cW) =>
 cL
 (decide (((List.map Sy.str.enc s5.2.2.1).length+1)*16≤140737488355328) &&
 decide ((List.map Sy.str.enc s5.2.2.1).length+1≤140737488355328))
 (bH Sy.str [] fun (y7:List ByteArray) =>
 bH Sy.str [] fun (y8:List ByteArray) =>
 bH Sy.str [] fun (y9:List ByteArray) =>
 bH Sy.str [] fun (y10:List ByteArray) =>
 bH Sy.str
 (List.map Sy.str.enc s5.2.2.1++[[T.v (.string y6.1)]])
 fun (y11:List ByteArray) =>
 bH Sy.str (List.map Sy.str.enc s5.2.2.2.1)
 fun (y12:List ByteArray) =>
 bH Sy.str (List.map Sy.str.enc s5.2.2.2.2.1)
 fun (y13:List ByteArray) =>
 bH Sy.str (List.map Sy.str.enc s5.2.2.2.2.2.1)
 fun (y14:List ByteArray) =>
 X4 (IntKind.i64.wrap (s5.1+1),(y7,y8,y9,y10),y11,y12,y13,y14,())))
 (bH Sy.str [] fun (y15:List ByteArray) =>
 bH Sy.str [] fun (y16:List ByteArray) =>
 bH Sy.str [] fun (y17:List ByteArray) =>
 bH Sy.str [] fun (y18:List ByteArray) =>
 bH Sy.str (List.map Sy.str.enc s5.2.2.1) fun (y19:List ByteArray) =>
 bH Sy.str (List.map Sy.str.enc s5.2.2.2.1)
 fun (y20:List ByteArray) =>
 bH Sy.str (List.map Sy.str.enc s5.2.2.2.2.1)
 fun (y21:List ByteArray) =>
 bH Sy.str (List.map Sy.str.enc s5.2.2.2.2.2.1)
 fun (y22:List ByteArray) =>
 a8
 (Int ×
 (List ByteArray×List ByteArray×List ByteArray×List ByteArray) ×
 List ByteArray×List ByteArray×List ByteArray×List ByteArray×PUnit)
 (fun
 (X23 :
 Int ×
 (List ByteArray×List ByteArray×List ByteArray×List ByteArray) ×
 List ByteArray×List ByteArray×List ByteArray×List ByteArray×PUnit →
 Prop)
 (s24 :
 Int ×
 (List ByteArray×List ByteArray×List ByteArray×List ByteArray) ×
 List ByteArray×List ByteArray×List ByteArray×List ByteArray×PUnit) =>
 aC
 (decide (s24.1<(↑(List.map bB.enc a0.2.2.1).length:Int)))
 (aQ bB (List.map bB.enc a0.2.2.1) s24.1
 fun (y25:bI) =>
 cL
 (decide
 (((List.map Sy.str.enc s24.2.2.2.1).length+1)*16 ≤
 140737488355328) &&
 decide
 ((List.map Sy.str.enc s24.2.2.2.1).length+1 ≤
 140737488355328))
 (bH Sy.str [] fun (y26:List ByteArray) =>
 bH Sy.str [] fun (y27:List ByteArray) =>
 bH Sy.str [] fun (y28:List ByteArray) =>
 bH Sy.str [] fun (y29:List ByteArray) =>
 bH Sy.str (List.map Sy.str.enc s24.2.2.1)
 fun (y30:List ByteArray) =>
 bH Sy.str
 (List.map Sy.str.enc s24.2.2.2.1 ++
 [[T.v (.string y25.1)]])
 fun (y31:List ByteArray) =>
 bH Sy.str
 (List.map Sy.str.enc s24.2.2.2.2.1)
 fun (y32:List ByteArray) =>
 bH Sy.str
 (List.map Sy.str.enc s24.2.2.2.2.2.1)
 fun (y33:List ByteArray) =>
 X23
 (IntKind.i64.wrap (s24.1+1),(y26,y27,y28,y29),y30,
 y31,y32,y33,())))
 (bH Sy.str [] fun (y34:List ByteArray) =>
 bH Sy.str [] fun (y35:List ByteArray) =>
 bH Sy.str [] fun (y36:List ByteArray) =>
 bH Sy.str [] fun (y37:List ByteArray) =>
 bH Sy.str (List.map Sy.str.enc s24.2.2.1)
 fun (y38:List ByteArray) =>
 bH Sy.str (List.map Sy.str.enc s24.2.2.2.1)
 fun (y39:List ByteArray) =>
 bH Sy.str
 (List.map Sy.str.enc s24.2.2.2.2.1)
 fun (y40:List ByteArray) =>
 bH Sy.str
 (List.map Sy.str.enc s24.2.2.2.2.2.1)
 fun (y41:List ByteArray) =>
 a8
 (Int ×
 (List ByteArray ×
 List ByteArray×List ByteArray×List ByteArray) ×
 List ByteArray ×
 List ByteArray×List ByteArray×List ByteArray×PUnit)
 (fun
 (X42 :
 Int ×
 (List ByteArray ×
 List ByteArray×List ByteArray×List ByteArray) ×
 List ByteArray ×
 List ByteArray ×
 List ByteArray×List ByteArray×PUnit →
 Prop)
 (s43 :
 Int ×
 (List ByteArray ×
 List ByteArray×List ByteArray×List ByteArray) ×
 List ByteArray ×
 List ByteArray ×
 List ByteArray×List ByteArray×PUnit) =>
 aC
 (decide
 (s43.1 <
 (↑(List.map gN.enc a0.2.2.2.1).length :
 Int)))
 (aQ gN
 (List.map gN.enc a0.2.2.2.1) s43.1
 fun (y44:xV) =>
 cL
 (decide
 (((List.map Sy.str.enc
 s43.2.2.2.2.1).length +
 1) *
 16 ≤
 140737488355328) &&
 decide
 ((List.map Sy.str.enc
 s43.2.2.2.2.1).length +
 1 ≤
 140737488355328))
 (bH Sy.str [] fun (y45:List ByteArray) =>
 bH Sy.str [] fun (y46:List ByteArray) =>
 bH Sy.str []
 fun (y47:List ByteArray) =>
 bH Sy.str []
 fun (y48:List ByteArray) =>
 bH Sy.str
 (List.map Sy.str.enc s43.2.2.1)
 fun (y49:List ByteArray) =>
 bH Sy.str
 (List.map Sy.str.enc
 s43.2.2.2.1)
 fun (y50:List ByteArray) =>
 bH Sy.str
 (List.map Sy.str.enc
 s43.2.2.2.2.1 ++
 [[T.v (.string y44.1)]])
 fun (y51:List ByteArray) =>
 bH Sy.str
 (List.map Sy.str.enc
 s43.2.2.2.2.2.1)
 fun (y52:List ByteArray) =>
 X42
 (IntKind.i64.wrap (s43.1+1),
 (y45,y46,y47,y48),y49,y50,y51,
 y52,())))
 (bH Sy.str [] fun (y53:List ByteArray) =>
 bH Sy.str [] fun (y54:List ByteArray) =>
 bH Sy.str [] fun (y55:List ByteArray) =>
 bH Sy.str [] fun (y56:List ByteArray) =>
 bH Sy.str
 (List.map Sy.str.enc s43.2.2.1)
 fun (y57:List ByteArray) =>
 bH Sy.str
 (List.map Sy.str.enc s43.2.2.2.1)
 fun (y58:List ByteArray) =>
 bH Sy.str
 (List.map Sy.str.enc
 s43.2.2.2.2.1)
 fun (y59:List ByteArray) =>
 bH Sy.str
 (List.map Sy.str.enc
 s43.2.2.2.2.2.1)
 fun (y60:List ByteArray) =>
 a8
 (Int ×
 (List ByteArray ×
 List ByteArray ×
 List ByteArray×List ByteArray) ×
 List ByteArray ×
 List ByteArray ×
 List ByteArray ×
 List ByteArray×PUnit)
 (fun
 (X61 :
 Int ×
 (List ByteArray ×
 List ByteArray ×
 List ByteArray ×
 List ByteArray) ×
 List ByteArray ×
 List ByteArray ×
 List ByteArray ×
 List ByteArray×PUnit →
 Prop)
 (s62 :
 Int ×
 (List ByteArray ×
 List ByteArray ×
 List ByteArray ×
 List ByteArray) ×
 List ByteArray ×
 List ByteArray ×
 List ByteArray ×
 List ByteArray×PUnit) =>
 aC
 (decide
 (s62.1 <
 (↑(List.map aX.enc
 a0.2.2.2.2.1).length :
 Int)))
 (aQ aX
 (List.map aX.enc
 a0.2.2.2.2.1)
 s62.1 fun (y63:bZ) =>
 cL
 (decide
 (((List.map Sy.str.enc
 s62.2.2.2.2.2.1).length +
 1) *
 16 ≤
 140737488355328) &&
 decide
 ((List.map Sy.str.enc
 s62.2.2.2.2.2.1).length +
 1 ≤
 140737488355328))
 (bH Sy.str []
 fun (y64:List ByteArray) =>
 bH Sy.str []
 fun (y65:List ByteArray) =>
 bH Sy.str []
 fun (y66:List ByteArray) =>
 bH Sy.str []
 fun
 (y67:List ByteArray) =>
 bH Sy.str
 (List.map Sy.str.enc
 s62.2.2.1)
 fun
 (y68 :
 List ByteArray) =>
 bH Sy.str
 (List.map
 Sy.str.enc
 s62.2.2.2.1)
 fun
 (y69 :
 List ByteArray) =>
 bH Sy.str
 (List.map
 Sy.str.enc
 s62.2.2.2.2.1)
 fun
 (y70 :
 List ByteArray) =>
 bH
 Sy.str
 (List.map
 Sy.str.enc
 s62.2.2.2.2.2.1 ++
 [[T.v
 (Value.string
 y63.1)]])
 fun
 (y71 :
 List
 ByteArray) =>
 X61
 (IntKind.i64.wrap
 (s62.1+1),
 (y64,y65,y66,
 y67),
 y68,y69,y70,
 y71,())))
 (R
 (T.agg
 [T.sl false
 (List.map Sy.str.enc
 s62.2.2.1),
 T.sl false
 (List.map Sy.str.enc
 s62.2.2.2.1),
 T.sl false
 (List.map Sy.str.enc
 s62.2.2.2.2.1),
 T.sl false
 (List.map Sy.str.enc
 s62.2.2.2.2.2.1)])))
 (0,(y53,y54,y55,y56),y57,y58,y59,
 y60,())))
 (0,(y34,y35,y36,y37),y38,y39,y40,y41,())))
 (0,(y15,y16,y17,y18),y19,y20,y21,y22,())))
 (0,(y0,y1,y2,y3),[],[],[],[],())
theorem QL ( a0 R):bK aV Tryz.prog DA NM 8 76 [aB true aE a0] R=DU a0 R:=by kernel_rfl
abbrev w3:Sh:=[(true,aE)]
abbrev L4:=List ByteArray×List ByteArray×List ByteArray×List ByteArray
def ACW (d:aH):L4:=(ids d.2.1,ids d.2.2.1,ids d.2.2.2.1,ids d.2.2.2.2.1)
def ATY (x:L4):T:=T.agg [T.sl false (List.map Sy.str.enc x.1),T.sl false (List.map Sy.str.enc x.2.1),T.sl false (List.map Sy.str.enc x.2.2.1),T.sl false (List.map Sy.str.enc x.2.2.2)]
def AB (d:aH):Option T:=lZ d (ATY (ACW d))
noncomputable def fL:List T→Option (T):=gS w3 AB
theorem R2 {a0}:fL [aB true aE a0]=AB (a0):=a7 (s:=w3) rfl (a0) rfl
theorem ADD (h:∀ a0 r,AB (a0)=some r→cD w3 (a0)→DU a0 (fun y=>y=r)):aJ Tryz.prog 76 fL :=
 aR (E:=DA) (Hs:=NM) T4 aZ a6 (aN rfl) 8 ⟨_,_,Tryz.func76,rfl⟩ rfl fun x r h1 h2=>by
  let a0:=x
  rw[show Sh.bO w3 (a0)=[aB true aE a0] from rfl,QL]
  exact h a0 r h1 h2
theorem dk {l:List ByteArray} {rows:List (List T)} {K:List ByteArray→Prop} (e:rows=List.map Sy.str.enc l) (h:K l):bH Sy.str rows K:=by
 subst e;rw[eV (r:=.str) rfl];exact h
theorem BL {α:Type} {l:List (ByteArray×α)} {k:Nat} (h:k<l.length):ids (l.take (k+1))=ids (l.take k)++[l[k].1]:=by
 unfold ids;rw[List.take_succ_eq_append_getElem h,List.map_append];rfl
theorem G0 {α:Type} {l:List (ByteArray×α)} {k:Nat}:(ids (l.take k)).length≤k:=by
 unfold ids;rw[List.length_map,List.length_take];omega
theorem KF:aJ Tryz.prog 76 fL:=ADD fun d r h hb=>by
 obtain ⟨hu,rfl⟩:=iG h
 have u:=kY hu
 clear h hb
 unfold DU
 refine dk (l:=[]) rfl (dk (l:=[]) rfl (dk (l:=[]) rfl (dk (l:=[]) rfl ?_)))
 refine aS d.2.1.length (fun k s=>s=((k:Int),([],[],[],[]),ids (d.2.1.take k),[],[],[],())) rfl ?_
 rintro X k s hk rfl hX
 dsimp only
 refine cH (fun hlt=>?_) fun hge=>?_
 ·rw[List.length_map] at hlt
  have hlt:k<d.2.1.length:=by omega
  have hl:=u.n
  have ht:=G0 (l:=d.2.1) (k:=k)
  rw[aO (r:=bM) hlt,o4 (by omega)]
  refine dk (l:=[]) rfl (dk (l:=[]) rfl (dk (l:=[]) rfl (dk (l:=[]) rfl ?_)))
  refine dk (l:=ids (d.2.1.take k)++[d.2.1[k].1]) (by rw[List.map_append];rfl) (dk (l:=[]) rfl (dk (l:=[]) rfl (dk (l:=[]) rfl ?_)))
  refine hX _ hlt ?_
  rw[BL hlt,show IntKind.i64.wrap ((k:Int)+1)=((k+1:Nat):Int) from aP _ (by omega) (by omega)]
 have:k=d.2.1.length:=by rw[List.length_map] at hge;omega
 subst this
 rw[List.take_length]
 clear hge hX hk X
 refine dk (l:=[]) rfl (dk (l:=[]) rfl (dk (l:=[]) rfl (dk (l:=[]) rfl ?_)))
 refine dk (l:=ids d.2.1) rfl (dk (l:=[]) rfl (dk (l:=[]) rfl (dk (l:=[]) rfl ?_)))
 refine aS d.2.2.1.length (fun k s=>s=((k:Int),([],[],[],[]),ids d.2.1,ids (d.2.2.1.take k),[],[],())) rfl ?_
 rintro X k s hk rfl hX
 dsimp only
 refine cH (fun hlt=>?_) fun hge=>?_
 ·rw[List.length_map] at hlt
  have hlt:k<d.2.2.1.length:=by omega
  have hl:=u.p
  have ht:=G0 (l:=d.2.2.1) (k:=k)
  rw[aO (r:=bB) hlt,o4 (by omega)]
  refine dk (l:=[]) rfl (dk (l:=[]) rfl (dk (l:=[]) rfl (dk (l:=[]) rfl ?_)))
  refine dk (l:=ids d.2.1) rfl (dk (l:=ids (d.2.2.1.take k)++[d.2.2.1[k].1]) (by rw[List.map_append];rfl) (dk (l:=[]) rfl (dk (l:=[]) rfl ?_)))
  refine hX _ hlt ?_
  rw[BL hlt,show IntKind.i64.wrap ((k:Int)+1)=((k+1:Nat):Int) from aP _ (by omega) (by omega)]
 have:k=d.2.2.1.length:=by rw[List.length_map] at hge;omega
 subst this
 rw[List.take_length]
 clear hge hX hk X
 refine dk (l:=[]) rfl (dk (l:=[]) rfl (dk (l:=[]) rfl (dk (l:=[]) rfl ?_)))
 refine dk (l:=ids d.2.1) rfl (dk (l:=ids d.2.2.1) rfl (dk (l:=[]) rfl (dk (l:=[]) rfl ?_)))
 refine aS d.2.2.2.1.length (fun k s=>s=((k:Int),([],[],[],[]),ids d.2.1,ids d.2.2.1,ids (d.2.2.2.1.take k),[],())) rfl ?_
 rintro X k s hk rfl hX
 dsimp only
 refine cH (fun hlt=>?_) fun hge=>?_
 ·rw[List.length_map] at hlt
  have hlt:k<d.2.2.2.1.length:=by omega
  have hl:=u.s
  have ht:=G0 (l:=d.2.2.2.1) (k:=k)
  rw[aO (r:=gN) hlt,o4 (by omega)]
  refine dk (l:=[]) rfl (dk (l:=[]) rfl (dk (l:=[]) rfl (dk (l:=[]) rfl ?_)))
  refine dk (l:=ids d.2.1) rfl (dk (l:=ids d.2.2.1) rfl (dk (l:=ids (d.2.2.2.1.take k)++[d.2.2.2.1[k].1]) (by rw[List.map_append];rfl) (dk (l:=[]) rfl ?_)))
  refine hX _ hlt ?_
  rw[BL hlt,show IntKind.i64.wrap ((k:Int)+1)=((k+1:Nat):Int) from aP _ (by omega) (by omega)]
 have:k=d.2.2.2.1.length:=by rw[List.length_map] at hge;omega
 subst this
 rw[List.take_length]
 clear hge hX hk X
 refine dk (l:=[]) rfl (dk (l:=[]) rfl (dk (l:=[]) rfl (dk (l:=[]) rfl ?_)))
 refine dk (l:=ids d.2.1) rfl (dk (l:=ids d.2.2.1) rfl (dk (l:=ids d.2.2.2.1) rfl (dk (l:=[]) rfl ?_)))
 refine aS d.2.2.2.2.1.length (fun k s=>s=((k:Int),([],[],[],[]),ids d.2.1,ids d.2.2.1,ids d.2.2.2.1,ids (d.2.2.2.2.1.take k),())) rfl ?_
 rintro X k s hk rfl hX
 dsimp only
 refine cH (fun hlt=>?_) fun hge=>?_
 ·rw[List.length_map] at hlt
  have hlt:k<d.2.2.2.2.1.length:=by omega
  have hl:=u.k
  have ht:=G0 (l:=d.2.2.2.2.1) (k:=k)
  rw[aO (r:=aX) hlt,o4 (by omega)]
  refine dk (l:=[]) rfl (dk (l:=[]) rfl (dk (l:=[]) rfl (dk (l:=[]) rfl ?_)))
  refine dk (l:=ids d.2.1) rfl (dk (l:=ids d.2.2.1) rfl (dk (l:=ids d.2.2.2.1) rfl (dk (l:=ids (d.2.2.2.2.1.take k)++[d.2.2.2.2.1[k].1]) (by rw[List.map_append];rfl) ?_)))
  refine hX _ hlt ?_
  rw[BL hlt,show IntKind.i64.wrap ((k:Int)+1)=((k+1:Nat):Int) from aP _ (by omega) (by omega)]
 have:k=d.2.2.2.2.1.length:=by rw[List.length_map] at hge;omega
 subst this
 rw[List.take_length]
 clear hge hX hk X
 rfl
abbrev q4:Sh:=[(true,Sy.str.li.pr (Sy.str.li.pr (Sy.str.li.pr Sy.str.li)))]
theorem BG {d:aH} (h:okU d=true):fL [aB true aE d]=some (Sh.enc q4 (ACW d)):=(R2 ..).trans (iH _ h)
theorem qQ {m l:List ByteArray} (hl:l.length≤140737488355328) {R7 Exit:Prop} (h7:l.any (kH m)=true→R7) (hx:l.any (kH m)=false→Exit) :
 a8 (Int×PUnit) (fun (X:Int×PUnit→Prop) (s:Int×PUnit)=>aC (decide (s.1<((List.map Sy.str.enc l).length:Int))) (aQ Sy.str (List.map Sy.str.enc l) s.1 fun y=>aI [(false,Sy.bool)] (cJ [T.sl false (List.map Sy.str.enc m),T.v (.string y)]) fun (b:Bool)=>aC b R7 (X (IntKind.i64.wrap (s.1+1),()))) Exit) (0,()):=by
 refine j3 (r:=.str) (fun y=>if kH m y=true then 1 else 0) hl (fun X s y hy hok hbad=>?_) fun h0=>hx ?_
 ·refine aF (s:=AV) (y:=kH m y) (rV ..) ?_
  refine GN (fun h=>h7 (List.any_eq_true.2 ⟨y,hy,h⟩)) fun h=>hok (by rw[h];rfl)
 ·rw[Bool.eq_false_iff]
  intro h
  obtain ⟨y,hy,h⟩:=List.any_eq_true.1 h
  have this:(if kH m y=true then (1:Int) else 0)=0:=lG h0 y hy
  rw[if_pos h] at this
  cases this
noncomputable def HM:Env:=Env.of [(74,.pure cM),(76,.pure fL),(77,.pure fP),(78,.pure j5),(14,.pure cJ)]
def VA:FuncId→Hint:=fun f=>match f == 31 with|true=>⟨fun r=>match r == 7 with|true=>.L8 5|false=>match r == 12 with|true=>.inv [.val 5 false (.int .i64)]|false=>match r == 17 with|true=>.L8 5|false=>match r == 20 with|true=>.L8 5|false=>match r == 23 with|true=>.inv [.val 8 false (.int .i64)]|false=>.none,fun _ _=>none,fun _=>none⟩|false=>aU
theorem AAD:aG Tryz.prog HM:=aG.cons (x:=.pure cM) oL (aG.cons (x:=.pure fL) KF (aG.cons (x:=.pure fP) WQ (aG.cons (x:=.pure j5) WR (aG.cons (x:=.pure cJ) BA (aG.nil _)))))
def IB (a0:aH) (R:T→Prop):Prop :=
 aI [(false,Sy.bool)] (cM [T.v (.string a0.1)]) fun (y0:Bool) =>
 aC (!y0) (R (T.v (.int .i64 6)))
 (aC (decide (64<(↑(List.map bM.enc a0.2.1).length:Int)))
 (R (T.v (.int .i64 4)))
 (aC (decide (256<(↑(List.map bB.enc a0.2.2.1).length:Int)))
 (R (T.v (.int .i64 4)))
 (aC (decide (256<(↑(List.map gN.enc a0.2.2.2.1).length:Int)))
 (R (T.v (.int .i64 4)))
 (aC (decide (64<(↑(List.map aX.enc a0.2.2.2.2.1).length:Int)))
 (R (T.v (.int .i64 4)))
 (aC (decide (256<(↑(List.map fT.enc a0.2.2.2.2.2).length:Int)))
 (R (T.v (.int .i64 4)))
 (aI [(true,Sy.str.li.pr (Sy.str.li.pr (Sy.str.li.pr Sy.str.li)))]
 (fL [aB true aE a0])
 fun (y1:List ByteArray×List ByteArray×List ByteArray×List ByteArray) =>
 aI [(false,Sy.bool)]
 (fP [T.sl false (List.map Sy.str.enc y1.1)]) fun (y2:Bool) =>
 aC (!y2) (R (T.v (.int .i64 11)))
 (aI [(false,Sy.bool)]
 (fP [T.sl false (List.map Sy.str.enc y1.2.1)]) fun (y3:Bool) =>
 aC (!y3) (R (T.v (.int .i64 11)))
 (aI [(false,Sy.bool)]
 (fP [T.sl false (List.map Sy.str.enc y1.2.2.1)])
 fun (y4:Bool) =>
 aC (!y4) (R (T.v (.int .i64 11)))
 (aI [(false,Sy.bool)]
 (fP [T.sl false (List.map Sy.str.enc y1.2.2.2)])
 fun (y5:Bool) =>
 aC (!y5) (R (T.v (.int .i64 11)))
 (a8 (Int×PUnit)
 (fun (X6:Int×PUnit→Prop) (s7:Int×PUnit) =>
 aC
 (decide
 (s7.1<(↑(List.map fT.enc a0.2.2.2.2.2).length:Int)))
 (aQ fT (List.map fT.enc a0.2.2.2.2.2)
 (IntKind.i64.wrap (s7.1-1)) fun (y8:qC) =>
 aQ fT (List.map fT.enc a0.2.2.2.2.2) s7.1
 fun (y9:qC) =>
 aI [(false,Sy.bool)]
 (j5
 [aB true fT y8,aB true fT y9])
 fun (y10:Bool) =>
 aC (!y10) (R (T.v (.int .i64 11)))
 (X6 (IntKind.i64.wrap (s7.1+1),())))
 (a8 (Int×PUnit)
 (fun (X11:Int×PUnit→Prop) (s12:Int×PUnit) =>
 aC
 (decide (s12.1<(↑(List.map Sy.str.enc y1.2.1).length:Int)))
 (aQ Sy.str (List.map Sy.str.enc y1.2.1) s12.1
 fun (y13:ByteArray) =>
 aI [(false,Sy.bool)]
 (cJ
 [T.sl false (List.map Sy.str.enc y1.1),
 T.v (.string y13)])
 fun (y14:Bool) =>
 aC y14 (R (T.v (.int .i64 7)))
 (X11 (IntKind.i64.wrap (s12.1+1),())))
 (a8 (Int×PUnit)
 (fun (X15:Int×PUnit→Prop) (s16:Int×PUnit) =>
 aC
 (decide
 (s16.1 <
 (↑(List.map Sy.str.enc y1.2.2.1).length:Int)))
 (aQ Sy.str (List.map Sy.str.enc y1.2.2.1)
 s16.1 fun (y17:ByteArray) =>
 aI [(false,Sy.bool)]
 (cJ
 [T.sl false (List.map Sy.str.enc y1.1),
 T.v (.string y17)])
 fun (y18:Bool) =>
 aC y18 (R (T.v (.int .i64 7)))
 (X15 (IntKind.i64.wrap (s16.1+1),())))
 (a8 (Int×PUnit)
 (fun (X19:Int×PUnit→Prop) (s20:Int×PUnit) =>
 aC
 (decide
 (s20.1 <
 (↑(List.map Sy.str.enc y1.2.2.1).length:Int)))
 (aQ Sy.str
 (List.map Sy.str.enc y1.2.2.1) s20.1
 fun (y21:ByteArray) =>
 aI [(false,Sy.bool)]
 (cJ
 [T.sl false (List.map Sy.str.enc y1.2.1),
 T.v (.string y21)])
 fun (y22:Bool) =>
 aC y22
 (R (T.v (.int .i64 7)))
 (X19 (IntKind.i64.wrap (s20.1+1),())))
 (a8 (Int×PUnit)
 (fun (X23:Int×PUnit→Prop) (s24:Int×PUnit) =>
 aC
 (decide
 (s24.1 <
 (↑(List.map Sy.str.enc y1.2.2.2).length :
 Int)))
 (aQ Sy.str
 (List.map Sy.str.enc y1.2.2.2) s24.1
 fun (y25:ByteArray) =>
 aI [(false,Sy.bool)]
 (cJ
 [T.sl false
 (List.map Sy.str.enc y1.1),
 T.v (.string y25)])
 fun (y26:Bool) =>
 aC y26
 (R (T.v (.int .i64 7)))
 (X23 (IntKind.i64.wrap (s24.1+1),())))
 (a8 (Int×PUnit)
 (fun (X27:Int×PUnit→Prop) (s28:Int×PUnit) =>
 aC
 (decide
 (s28.1 <
 (↑(List.map Sy.str.enc
 y1.2.2.2).length :
 Int)))
 (aQ Sy.str
 (List.map Sy.str.enc y1.2.2.2) s28.1
 fun (y29:ByteArray) =>
 aI [(false,Sy.bool)]
 (cJ
 [T.sl false
 (List.map Sy.str.enc y1.2.1),
 T.v (.string y29)])
 fun (y30:Bool) =>
 aC y30
 (R
 (T.v (.int .i64 7)))
 (X27 (IntKind.i64.wrap (s28.1+1),())))
 (a8 (Int×PUnit)
 (fun (X31:Int×PUnit→Prop)
 (s32:Int×PUnit) =>
 aC
 (decide
 (s32.1 <
 (↑(List.map Sy.str.enc
 y1.2.2.2).length :
 Int)))
 (aQ Sy.str
 (List.map Sy.str.enc y1.2.2.2)
 s32.1 fun (y33:ByteArray) =>
 aI [(false,Sy.bool)]
 (cJ
 [T.sl false
 (List.map Sy.str.enc
 y1.2.2.1),
 T.v (.string y33)])
 fun (y34:Bool) =>
 aC y34
 (R
 (T.v
 (Value.int IntKind.i64 7)))
 (X31
 (IntKind.i64.wrap (s32.1+1),
 ())))
 (R
 (T.v
 (Value.int IntKind.i64 0))))
 (0,())))
 (0,())))
 (0,())))
 (0,())))
 (0,())))
 (0,())))
 (1,())))))))))))
theorem UL ( a0 R):bK aV Tryz.prog HM VA 8 31 [aB true aE a0] R=IB a0 R:=by kernel_rfl
abbrev CE:Sh:=[(true,aE)]
def FB (d:aH):Option T:=lZ d (T.v (Value.int .i64 (if isName d.1=false then 6 else jC d)))
noncomputable def qK:List T→Option (T):=gS CE FB
theorem XB {a0}:qK [aB true aE a0]=FB (a0):=a7 (s:=CE) rfl (a0) rfl
theorem AH3 (h:∀ a0 r,FB (a0)=some r→cD CE (a0)→IB a0 (fun y=>y=r)):aJ Tryz.prog 31 qK :=
 aR (E:=HM) (Hs:=VA) AAD aZ a6 (aN rfl) 8 ⟨_,_,Tryz.func31,rfl⟩ rfl fun x r h1 h2=>by
  let a0:=x
  rw[show Sh.bO CE (a0)=[aB true aE a0] from rfl,UL]
  exact h a0 r h1 h2
theorem zH {d:aH} {m l:List ByteArray} (hc:(m=ids d.2.1∧l=ids d.2.2.1)∨(m=ids d.2.1∧l=ids d.2.2.2.1)∨(m=ids d.2.2.1∧l=ids d.2.2.2.1)∨(m=ids d.2.1∧l=ids d.2.2.2.2.1)∨(m=ids d.2.2.1∧l=ids d.2.2.2.2.1)∨(m=ids d.2.2.2.1∧l=ids d.2.2.2.2.1)) (h:l.any (kH m)=true):WJ d=true:=by
 obtain ⟨x,hx,hm⟩:=List.any_eq_true.1 h
 simp only[WJ,AQE,Bool.or_eq_true,List.any_eq_true]
 rcases hc with ⟨rfl,rfl⟩|⟨rfl,rfl⟩|⟨rfl,rfl⟩|⟨rfl,rfl⟩|⟨rfl,rfl⟩|⟨rfl,rfl⟩
 ·exact .inl (.inl ⟨x,hx,hm⟩)
 ·exact .inl (.inr ⟨x,hx,.inl hm⟩)
 ·exact .inl (.inr ⟨x,hx,.inr hm⟩)
 ·exact .inr ⟨x,hx,.inl (.inl hm)⟩
 ·exact .inr ⟨x,hx,.inl (.inr hm)⟩
 ·exact .inr ⟨x,hx,.inr hm⟩
theorem AG3:aJ Tryz.prog 31 qK:=AH3 fun d r h hb=>by
 obtain ⟨hu,rfl⟩:=iG h
 have u:=kY hu
 have un:=u.n
 have up:=u.p
 have us:=u.s
 have uk:=u.k
 have ur:=u.r
 clear h hb
 have is0:∀ {n:Int},(if isName d.1=false then 6 else jC d)=n→T.v (.int .i64 n)=T.v (.int .i64 (if isName d.1=false then 6 else jC d)):=fun h=>by rw[h]
 unfold IB
 refine aF (s:=AV) (y:=isName d.1) kV ?_
 refine dJ (fun h=>is0 (by rw[if_pos h])) fun hn=>?_
 have is:∀ {n:Int},jC d=n→T.v (.int .i64 n)=T.v (.int .i64 (if isName d.1=false then 6 else jC d)):=fun h=>is0 (by rw[if_neg (by rw[show isName d.1=true from hn];exact Bool.noConfusion)];exact h)
 clear is0
 have long:jU d=true→jC d=4:=fun h=>by unfold jC;rw[if_pos h]
 refine cH (fun h=>is (long (by rw[List.length_map] at h;simp only[jU,Bool.or_eq_true,decide_eq_true_eq];omega))) fun l1=>?_
 refine cH (fun h=>is (long (by rw[List.length_map] at h;simp only[jU,Bool.or_eq_true,decide_eq_true_eq];omega))) fun l2=>?_
 refine cH (fun h=>is (long (by rw[List.length_map] at h;simp only[jU,Bool.or_eq_true,decide_eq_true_eq];omega))) fun l3=>?_
 refine cH (fun h=>is (long (by rw[List.length_map] at h;simp only[jU,Bool.or_eq_true,decide_eq_true_eq];omega))) fun l4=>?_
 refine cH (fun h=>is (long (by rw[List.length_map] at h;simp only[jU,Bool.or_eq_true,decide_eq_true_eq];omega))) fun l5=>?_
 rw[List.length_map] at l1 l2 l3 l4 l5
 have notLong:jU d=false:=by simp only[jU,Bool.or_eq_false_iff,decide_eq_false_iff_not];omega
 have b11:jR d=false→T.v (.int .i64 11)=T.v (.int .i64 (if isName d.1=false then 6 else jC d)):=fun h=>is (by unfold jC;rw[notLong,if_neg (by simp),if_pos h])
 refine aF (s:=q4) (BG hu) ?_
 have il:∀ {α:Type} {l:List (ByteArray×α)},l.length≤1000→(ids l).length≤140737488355328:=fun h=>by unfold ids;rw[List.length_map];omega
 refine aF (s:=AV) (y:=AS (ids d.2.1)) ((nE ..).trans (nM _ (il un))) ?_
 refine dJ (fun h=>b11 (by unfold jR;rw[h];rfl)) fun a1=>?_
 refine aF (s:=AV) (y:=AS (ids d.2.2.1)) ((nE ..).trans (nM _ (il up))) ?_
 refine dJ (fun h=>b11 (by unfold jR;rw[h];simp)) fun a2=>?_
 refine aF (s:=AV) (y:=AS (ids d.2.2.2.1)) ((nE ..).trans (nM _ (il us))) ?_
 refine dJ (fun h=>b11 (by unfold jR;rw[h];simp)) fun a3=>?_
 refine aF (s:=AV) (y:=AS (ids d.2.2.2.2.1)) ((nE ..).trans (nM _ (il uk))) ?_
 refine dJ (fun h=>b11 (by unfold jR;rw[h];simp)) fun a4=>?_
 refine aS d.2.2.2.2.2.length (fun k s=>s=(((k+1:Nat):Int),())∧V2 d.2.2.2.2.2=V2 (d.2.2.2.2.2.drop k)) ⟨rfl,by rw[List.drop_zero]⟩ ?_
 rintro X k s hk ⟨rfl,he⟩ hX
 dsimp only
 have hw:IntKind.i64.wrap (((k+1:Nat):Int)+1)=((k+1+1:Nat):Int):=aP _ (by omega) (by omega)
 have hw1:IntKind.i64.wrap (((k+1:Nat):Int)-1)=((k:Nat):Int):=by rw[aP _ (by omega) (by omega)];omega
 refine cH (fun hlt=>?_) fun hge=>?_
 ·have hlt:k+1<d.2.2.2.2.2.length:=by rw[List.length_map] at hlt;omega
  rw[hw1,aO (r:=fT) (show k<d.2.2.2.2.2.length by omega),aO (r:=fT) hlt,hw]
  rw[AGB hlt] at he
  refine aF (s:=AV) (y:=ltN d.2.2.2.2.2[k] d.2.2.2.2.2[k+1]) (MV ..) ?_
  refine dJ (fun h=>b11 ?_) fun h=>hX _ (by omega) ⟨rfl,?_⟩
  ·unfold jR;rw[he,h];simp
  ·rw[he,h];rfl
 rw[List.length_map] at hge
 rw[AJQ (by omega)] at he
 clear hX hk hw hw1 hge
 have io:¬ jR d=false:=by unfold jR;rw[a1,a2,a3,a4,he];decide
 have b7:WJ d=true→T.v (.int .i64 7)=T.v (.int .i64 (if isName d.1=false then 6 else jC d)):=fun h=>is (by unfold jC;rw[notLong,if_neg (by simp),if_neg io,if_pos h])
 refine qQ (m:=ids d.2.1) (l:=ids d.2.2.1) (il up) (fun h=>b7 (zH (.inl ⟨rfl,rfl⟩) h)) fun c1=>?_
 refine qQ (m:=ids d.2.1) (l:=ids d.2.2.2.1) (il us) (fun h=>b7 (zH (.inr (.inl ⟨rfl,rfl⟩)) h)) fun c2=>?_
 refine qQ (m:=ids d.2.2.1) (l:=ids d.2.2.2.1) (il us) (fun h=>b7 (zH (.inr (.inr (.inl ⟨rfl,rfl⟩))) h)) fun c3=>?_
 refine qQ (m:=ids d.2.1) (l:=ids d.2.2.2.2.1) (il uk) (fun h=>b7 (zH (.inr (.inr (.inr (.inl ⟨rfl,rfl⟩)))) h)) fun c4=>?_
 refine qQ (m:=ids d.2.2.1) (l:=ids d.2.2.2.2.1) (il uk) (fun h=>b7 (zH (.inr (.inr (.inr (.inr (.inl ⟨rfl,rfl⟩))))) h)) fun c5=>?_
 refine qQ (m:=ids d.2.2.2.1) (l:=ids d.2.2.2.2.1) (il uk) (fun h=>b7 (zH (.inr (.inr (.inr (.inr (.inr ⟨rfl,rfl⟩))))) h)) fun c6=>is ?_
 have na:∀ {l:List ByteArray} {p:ByteArray→Bool} {x:ByteArray},l.any p=false→x∈l→p x=false:=fun h hx=>by
  rw[Bool.eq_false_iff] at h ⊢
  exact fun h2=>h (List.any_eq_true.2 ⟨_,hx,h2⟩)
 have nd:¬ WJ d=true:=by
  intro h
  simp only[WJ,AQE,Bool.or_eq_true,List.any_eq_true] at h
  rcases h with (⟨x,hx,h⟩|⟨x,hx,h|h⟩)|⟨x,hx,(h|h)|h⟩
  ·rw[na c1 hx] at h;cases h
  ·rw[na c2 hx] at h;cases h
  ·rw[na c3 hx] at h;cases h
  ·rw[na c4 hx] at h;cases h
  ·rw[na c5 hx] at h;cases h
  ·rw[na c6 hx] at h;cases h
 unfold jC;rw[notLong,if_neg (by simp),if_neg io,if_neg nd]
noncomputable def DE:Env:=Env.of [(79,.pure cN),(41,.pure bV),(80,.pure BI),(81,.pure mS)]
def NQ:FuncId→Hint:=fun f=>match f == 32 with|true=>⟨fun r=>match r == 2 with|true=>.inv [.val 3 false (.int .i64)]|false=>match r == 15 with|true=>.inv [.val 7 false (.int .i64)]|false=>match r == 21 with|true=>.inv [.val 10 false (.int .i64)]|false=>.none,fun _ _=>none,fun _=>none⟩|false=>aU
theorem T8:aG Tryz.prog DE:=aG.cons (x:=.pure cN) wI (aG.cons (x:=.pure bV) j4 (aG.cons (x:=.pure BI) AKP (aG.cons (x:=.pure mS) ACA (aG.nil _))))
def DY (a0:aH) (R:T→Prop):Prop :=
 a8 (Int×PUnit)
 (fun (X0:Int×PUnit→Prop) (s1:Int×PUnit) =>
 aC (decide (s1.1<(↑(List.map bM.enc a0.2.1).length:Int)))
 (aQ bM (List.map bM.enc a0.2.1) s1.1 fun (y2:cW) =>
 aI [(true,bM),(false,Sy.bool)]
 (bV [aB true aE a0,T.v (.string y2.2.2)])
 fun (y3:cW×Bool) =>
 aI [(false,Sy.bool)] (cN [T.v (.string y2.1)]) fun (y4:Bool) =>
 aC (!y4) (R (T.v (.int .i64 6)))
 (aC (!decide (y2.2.1=1))
 (aC (!decide (y2.2.1=2)) (R (T.v (.int .i64 10)))
 (aC (decide (y2.2.1=1))
 (aC (!decide (y2.2.2 = { data:=#[] })) (R (T.v (.int .i64 2)))
 (aC (decide (y2.2.1=2))
 (aC (!y3.2) (R (T.v (.int .i64 8)))
 (X0 (IntKind.i64.wrap (s1.1+1),())))
 (X0 (IntKind.i64.wrap (s1.1+1),()))))
 (aC (decide (y2.2.1=2))
 (aC (!y3.2) (R (T.v (.int .i64 8)))
 (X0 (IntKind.i64.wrap (s1.1+1),())))
 (X0 (IntKind.i64.wrap (s1.1+1),())))))
 (aC (decide (y2.2.1=1))
 (aC (!decide (y2.2.2 = { data:=#[] })) (R (T.v (.int .i64 2)))
 (aC (decide (y2.2.1=2))
 (aC (!y3.2) (R (T.v (.int .i64 8)))
 (X0 (IntKind.i64.wrap (s1.1+1),())))
 (X0 (IntKind.i64.wrap (s1.1+1),()))))
 (aC (decide (y2.2.1=2))
 (aC (!y3.2) (R (T.v (.int .i64 8)))
 (X0 (IntKind.i64.wrap (s1.1+1),())))
 (X0 (IntKind.i64.wrap (s1.1+1),()))))))
 (a8 (Int×PUnit)
 (fun (X5:Int×PUnit→Prop) (s6:Int×PUnit) =>
 aC (decide (s6.1<(↑(List.map bM.enc a0.2.1).length:Int)))
 (aQ bM (List.map bM.enc a0.2.1) s6.1 fun (y7:cW) =>
 aI [(false,Sy.str.li),(false,Sy.bool)]
 (BI [aB true aE a0,T.v (.string y7.1)])
 fun (y8:List ByteArray×Bool) =>
 aC (!y8.2) (R (T.v (.int .i64 20)))
 (X5 (IntKind.i64.wrap (s6.1+1),())))
 (a8 (Int×PUnit)
 (fun (X9:Int×PUnit→Prop) (s10:Int×PUnit) =>
 aC (decide (s10.1<(↑(List.map bM.enc a0.2.1).length:Int)))
 (aQ bM (List.map bM.enc a0.2.1) s10.1 fun (y11:cW) =>
 aI [(false,Sy.str.li)]
 (mS [aB true aE a0,T.v (.string y11.1)])
 fun (y12:List ByteArray) =>
 aC (decide (8<(↑(List.map Sy.str.enc y12).length:Int)))
 (R (T.v (.int .i64 13))) (X9 (IntKind.i64.wrap (s10.1+1),())))
 (R (T.v (.int .i64 0))))
 (0,())))
 (0,())))
 (0,())
theorem QP ( a0 R):bK aV Tryz.prog DE NQ 8 32 [aB true aE a0] R=DY a0 R:=by kernel_rfl
abbrev w7:Sh:=[(true,aE)]
def AG (d:aH):Option T:=lZ d (T.v (Value.int .i64 (gG d)))
noncomputable def mP:List T→Option (T):=gS w7 AG
theorem R5 {a0}:mP [aB true aE a0]=AG (a0):=a7 (s:=w7) rfl (a0) rfl
theorem ADH (h:∀ a0 r,AG (a0)=some r→cD w7 (a0)→DY a0 (fun y=>y=r)):aJ Tryz.prog 32 mP :=
 aR (E:=DE) (Hs:=NQ) T8 aZ a6 (aN rfl) 8 ⟨_,_,Tryz.func32,rfl⟩ rfl fun x r h1 h2=>by
  let a0:=x
  rw[show Sh.bO w7 (a0)=[aB true aE a0] from rfl,QP]
  exact h a0 r h1 h2
theorem oT {d:aH} {id:ByteArray} {K:cW×Bool→Prop} (h:K (found sY (bD d id))):aI [(true,bM),(false,Sy.bool)] (bV [aB true aE d,T.v (.string id)]) K:=aF (s:=[(true,bM),(false,.bool)]) (oN ..) h
theorem lJ {s:ByteArray} {K:Bool→Prop} (h:AU s=true) (hk:K (iD s)):aI [(false,Sy.bool)] (cN [T.v (.string s)]) K:=aF (s:=AV) (KY h) hk
theorem AB7:aJ Tryz.prog 32 mP:=ADH fun d r h hb=>by
 obtain ⟨hu,rfl⟩:=iG h
 have u:=kY hu
 have un:=u.n
 clear h hb
 have is:∀ {n:Int},gG d=n→T.v (.int .i64 n)=T.v (.int .i64 (gG d)):=fun h=>by rw[h]
 unfold DY
 refine j3 (r:=bM) (GD d) (by omega) (fun X s y hy hok hbad=>?_) fun h0=>?_
 ·have bad:∀ {n:Int},n≠0→GD d y=n→T.v (.int .i64 n)=T.v (.int .i64 (gG d)):=fun hn h=>is (by
   have:=hbad (by rw[h];exact hn)
   unfold gG
   rw[if_neg (by rw[this,h];exact hn),this,h])
  refine oT (lJ (u.nI y hy) ?_)
  refine dJ (fun hid=>bad (by decide) (by unfold GD;rw[if_pos hid])) fun hid=>?_
  have fi:(found sY (bD d y.2.2)).2=(bD d y.2.2).isSome:=by cases bD d y.2.2<;>rfl
  rw[fi]
  clear fi hbad
  repeat' first
   | refine mV (fun h=>?_) (fun h=>?_)
   | refine cH (fun h=>?_) (fun h=>?_)
   | refine dJ (fun h=>?_) (fun h=>?_)
  all_goals first
   | (exfalso;omega)
   | (refine bad (by decide) ?_;clear bad hok;unfold GD;simp_all[Option.isSome_iff_ne_none];done)
   | (refine hok ?_;clear bad hok;unfold GD;simp_all[Option.isSome_iff_ne_none];done)
 ·have wn:gG d=if YN d=true then 20 else if JT d=true then 13 else 0:=by unfold gG;rw[if_pos h0]
  clear h0
  refine j3 (r:=bM) (fun n=>if (up d n.1).2=true then 0 else 20) (by omega) (fun X s y hy hok hbad=>?_) fun h1=>?_
  ·refine aF (s:=[(false,.li .str),(false,.bool)]) (y:=up d y.1) (SD ..) ?_
   refine dJ (fun h=>is ?_) fun h=>hok (by rw[if_pos h])
   rw[wn,if_pos]
   unfold YN
   exact List.any_eq_true.2 ⟨y,hy,by rw[h];rfl⟩
  have w2:gG d=if JT d=true then 13 else 0:=by
   rw[wn,if_neg]
   unfold YN
   intro h
   obtain ⟨y,hy,h⟩:=List.any_eq_true.1 h
   have this:(if (up d y.1).2=true then (0:Int) else 20)=0:=lG h1 y hy
   rw[if_neg (by intro hc;rw[hc] at h;cases h)] at this
   cases this
  clear wn h1
  have pa:∀ y∈d.2.1,fR d y.1=(up d y.1).1.reverse:=fun y hy=>by
   have hs:bD d y.1≠none:=fun h=>by
    have:=List.find?_eq_none.1 h y hy
    simp at this
   unfold fR
   cases hn:bD d y.1 with
   | none=>exact absurd hn hs
   | some _=>rfl
  refine j3 (r:=bM) (fun n=>if 8<(up d n.1).1.length then 13 else 0) (by omega) (fun X s y hy hok hbad=>?_) fun h1=>is ?_
  ·refine aF (s:=[(false,.li .str)]) (y:=fR d y.1) ((R9 ..).trans (show BZ d _=_ by unfold BZ;rw[u.okD])) ?_
   rw[pa y hy]
   refine cH (fun h=>is ?_) fun h=>hok (by rw[List.length_map,List.length_reverse] at h;rw[if_neg (by omega)])
   rw[List.length_map,List.length_reverse] at h
   rw[w2,if_pos]
   unfold JT
   exact List.any_eq_true.2 ⟨y,hy,by rw[decide_eq_true_eq];omega⟩
  rw[w2,if_neg]
  unfold JT
  intro h
  obtain ⟨y,hy,h⟩:=List.any_eq_true.1 h
  rw[decide_eq_true_eq] at h
  have this:(if 8<(up d y.1).1.length then (13:Int) else 0)=0:=lG h1 y hy
  rw[if_pos h] at this
  cases this
noncomputable def yM:Env:=Env.of [(82,.pure iA),(41,.pure bV),(83,.pure nH)]
def I0:FuncId→Hint:=fun f=>match f == 33 with|true=>⟨fun r=>match r == 2 with|true=>.inv [.val 5 false (.int .i64)]|false=>match r == 12 with|true=>.inv [.val 9 false (.int .i64),.val 10 false (.int .i64)]|false=>.none,fun _ _=>none,fun _=>none⟩|false=>aU
theorem P1:aG Tryz.prog yM:=aG.cons (x:=.pure iA) OC (aG.cons (x:=.pure bV) j4 (aG.cons (x:=.pure nH) AG6 (aG.nil _)))
def yV (a0:aH) (a1:aM) (R:T→Prop):Prop :=
 a8 (Int×PUnit)
 (fun (X0:Int×PUnit→Prop) (s1:Int×PUnit) =>
 aC (decide (s1.1<(↑(List.map bB.enc a0.2.2.1).length:Int)))
 (aQ bB (List.map bB.enc a0.2.2.1) s1.1 fun (y2:bI) =>
 aI [(false,Sy.int IntKind.i64)]
 (iA [aB true bB y2,aB true aL a1]) fun (y3:Int) =>
 aC (!decide (y3=0)) (R (T.v (.int .i64 y3)))
 (aQ bB (List.map bB.enc a0.2.2.1) s1.1 fun (y4:bI) =>
 aI [(true,bM),(false,Sy.bool)]
 (bV [aB true aE a0,T.v (.string y4.2.2.2.1)])
 fun (y5:cW×Bool) =>
 aC (!y5.2) (R (T.v (.int .i64 8)))
 (X0 (IntKind.i64.wrap (s1.1+1),()))))
 (a8 (Int×Int×PUnit)
 (fun (X6:Int×Int×PUnit→Prop) (s7:Int×Int×PUnit) =>
 aC (decide (s7.2.1<(↑(List.map bB.enc a0.2.2.1).length:Int)))
 (aQ bB (List.map bB.enc a0.2.2.1) s7.2.1 fun (y8:bI) =>
 aI [(false,Sy.int IntKind.i64),(false,Sy.int IntKind.i64)]
 (nH [aB true bB y8,aB true aL a1])
 fun (y9:aK) =>
 X6 (IntKind.i64.wrap (s7.1+y9.1),IntKind.i64.wrap (s7.2.1+1),()))
 (aC (decide (1099511627776<s7.1)) (R (T.v (.int .i64 13)))
 (R (T.v (.int .i64 0)))))
 (0,0,())))
 (0,())
theorem MH ( a0 a1 R):bK aV Tryz.prog yM I0 8 33 [aB true aE a0,aB true aL a1] R=yV a0 a1 R:=by kernel_rfl
abbrev tF:Sh:=[(true,aE),(true,aL)]
def lR (x:aH×aM):Option T:=match M8 x.2 with
 | true=>lZ x.1 (T.v (Value.int .i64 (iV x.1 x.2)))
 | false=>none
noncomputable def j8:List T→Option (T):=gS tF lR
theorem MX {a0 a1}:j8 [aB true aE a0,aB true aL a1]=lR (a0,a1):=a7 (s:=tF) rfl (a0,a1) rfl
theorem YR (h:∀ a0 a1 r,lR (a0,a1)=some r→cD tF (a0,a1)→yV a0 a1 (fun y=>y=r)):aJ Tryz.prog 33 j8 :=
 aR (E:=yM) (Hs:=I0) P1 aZ a6 (aN rfl) 8 ⟨_,_,Tryz.func33,rfl⟩ rfl fun x r h1 h2=>by
  obtain ⟨a0,a1⟩:=x
  rw[show Sh.bO tF (a0,a1)=[aB true aE a0,aB true aL a1] from rfl,MH]
  exact h a0 a1 r h1 h2
theorem u4 {r:Sy} {l:List r.den} (f:r.den→Int) (hl:l.length≤140737488355328) {Body:(Int×PUnit→Prop)→Int×PUnit→Prop} {Exit:Prop}
  (hbody:∀ (X:Int×PUnit→Prop) (k:Nat) (h:k<l.length),(f l[k]=0→X (IntKind.i64.wrap ((k:Int)+1),()))→(f l[k]≠0→bA f l=f l[k])→Body X ((k:Int),())) (hexit:bA f l=0→Exit) :
  a8 (Int×PUnit) (fun (X:Int×PUnit→Prop) (s:Int×PUnit)=>aC (decide (s.1<((List.map r.enc l).length:Int))) (Body X s) Exit) (0,()):=by
 refine aS l.length (fun k s=>s=((k:Int),())∧bA f l=bA f (l.drop k)) ⟨rfl,by rw[List.drop_zero]⟩ ?_
 rintro X k s hk ⟨rfl,he⟩ hX
 dsimp only
 refine cH (fun hlt=>?_) fun hge=>?_
 ·rw[List.length_map] at hlt
  have hlt:k<l.length:=by omega
  have hd:l.drop k=l[k]::l.drop (k+1):=List.drop_eq_getElem_cons hlt
  rw[hd,bA] at he
  refine hbody X k hlt (fun h0=>?_) fun h0=>by rw[he,if_neg h0]
  rw[if_pos h0] at he
  exact hX _ hlt ⟨by rw[show IntKind.i64.wrap ((k:Int)+1)=((k+1:Nat):Int) from aP _ (by omega) (by omega)],he⟩
 ·rw[List.length_map] at hge
  have:k=l.length:=by omega
  subst this
  rw[List.drop_length] at he
  exact hexit he
theorem G1 {a b A B:Int} (h1:0≤a∧a≤A) (h2:0≤b∧b≤B):0≤a*b∧a*b≤A*B:=⟨Int.mul_nonneg h1.1 h2.1,Int.mul_le_mul h1.2 h2.2 h2.1 (Int.le_trans h1.1 h1.2)⟩
theorem AEN {x n B:Int} (hn:0<n) (h:0≤x∧x≤n*B):0≤x.tdiv n∧x.tdiv n≤B:=by
 rw[Int.tdiv_eq_ediv_of_nonneg h.1]
 exact ⟨Int.ediv_nonneg h.1 (Int.le_of_lt hn),Int.ediv_le_of_le_mul hn (by rw[Int.mul_comm];exact h.2)⟩
theorem SM {p:bI} {m:aM} (h:eP p m=0):0≤(lK p m).1∧(lK p m).1≤2199023255552:=by
 have w:lK p m=(q8 p m,0):=by unfold lK;rw[if_pos h]
 rw[w]
 show 0≤q8 p m∧q8 p m≤2199023255552
 have e:q8 p m=q8 p m:=rfl
 unfold eP at h
 by_cases c1:iD p.1=false∨iD (dC p)=false
 ·rw[if_pos c1] at h;cases h
 rw[if_neg c1] at h
 by_cases c2:¬ (1≤p.2.1∧p.2.1≤1000)
 ·rw[if_pos c2] at h;cases h
 rw[if_neg c2] at h
 by_cases c3:¬ (aY p=1∨aY p=2∨aY p=3∨aY p=4)
 ·rw[if_pos c3] at h;cases h
 rw[if_neg c3] at h
 by_cases c4:AN p=true
 ·rw[if_pos c4] at h;cases h
 rw[if_neg c4] at h
 by_cases c5:lY p m=false
 ·rw[if_pos c5] at h;cases h
 rw[if_neg c5] at h
 have c5:lY p m=true:=by cases hc:lY p m with
  | true=>rfl
  | false=>exact absurd hc c5
 by_cases c6:aY p=1∧¬ jY (eM p)=0
 ·rw[if_pos c6] at h;exact absurd h c6.2
 rw[if_neg c6] at h
 by_cases c7:(aY p=2∨aY p=3)∧¬ (1≤jW p∧jW p≤32768)
 ·rw[if_pos c7] at h;cases h
 rw[if_neg c7] at h
 by_cases c8:aY p=4∧¬ (1≤gZ p∧gZ p≤1099511627776∧lT (zD p)=true)
 ·rw[if_pos c8] at h;cases h
 clear h w
 have k:aY p=1∨aY p=2∨aY p=3∨aY p=4:=Classical.not_not.1 c3
 clear c1 c2 c3 c4
 by_cases k4:aY p=4
 ·have hb:=Classical.not_and_iff_not_or_not.1 c8
  have hm:1≤gZ p∧gZ p≤1099511627776∧lT (zD p)=true:=hb.elim (fun h=>absurd k4 h) Classical.not_not.1
  unfold q8
  rw[if_neg (by omega),if_neg (by omega)]
  omega
 unfold lY at c5
 rw[if_neg k4] at c5
 cases hg:eG m (j0 p) with
 | none=>rw[hg] at c5;cases c5
 | some g =>
  rw[hg] at c5
  dsimp only at c5
  simp only[Bool.and_eq_true,decide_eq_true_eq] at c5
  obtain ⟨⟨d1,d2⟩,c5⟩:=c5
  have eg:KW m (j0 p)=g:=by unfold KW;rw[hg];rfl
  by_cases k1:aY p=1
  ·rw[if_pos k1] at c5
   simp only[Bool.and_eq_true,decide_eq_true_eq] at c5
   have t:=G1 (A:=618475290624) (B:=120) ⟨AO5 (eM p),(AO4 (eM p)).2⟩ (show 0≤iO p∧iO p≤120 by omega)
   have t2:=G1 (B:=20000) t (show 0≤g.2.1∧g.2.1≤20000 by omega)
   unfold q8
   rw[if_pos k1,eg,aP (xR (eM p)*iO p) (by omega) (by omega),aP (xR (eM p)*iO p*g.2.1) (by omega) (by omega)]
   have v:=AEN (x:=xR (eM p)*iO p*g.2.1) (n:=2000000) (B:=742170348749) (by omega) (by omega)
   rw[aP _ (by omega) (by omega)]
   omega
  ·rw[if_neg k1] at c5
   unfold ZI at c5
   cases hs:yG m (MO p) with
   | none=>rw[hs] at c5;cases c5
   | some s =>
    rw[hs] at c5
    dsimp only at c5
    simp only[Bool.and_eq_true,decide_eq_true_eq] at c5
    have es:AO8 m (MO p)=s:=by unfold AO8;rw[hs];rfl
    have k23:aY p=2∨aY p=3:=by omega
    have hl:1≤jW p∧jW p≤32768:=Classical.byContradiction fun hc=>c7 ⟨k23,hc⟩
    have t:=G1 (A:=1000000) (B:=32768) (show 0≤s.2.1∧s.2.1≤1000000 by omega) (show 0≤jW p∧jW p≤32768 by omega)
    have t2:=G1 (B:=20000) t (show 0≤g.2.1∧g.2.1≤20000 by omega)
    unfold q8
    rw[if_neg k1,if_pos k23,eg,es,aP (s.2.1*jW p) (by omega) (by omega),aP (s.2.1*jW p*g.2.1) (by omega) (by omega)]
    have v:=AEN (x:=s.2.1*jW p*g.2.1) (n:=1000000) (B:=655360000) (by omega) (by omega)
    rw[aP _ (by omega) (by omega)]
    omega
def AP (m:aM):List bI→Int
 | []=>0
 | p::l=>(lK p m).1+AP m l
theorem TM {m:aM}:∀ {l:List bI},(∀ p∈l,eP p m=0)→0≤AP m l∧AP m l≤2199023255552*(l.length:Int)
 | [],_=>by simp[AP]
 | p::l,h=>by
  have h1:=SM (h p (by simp))
  have h2:=TM (l:=l) fun q hq=>h q (by simp[hq])
  simp only[AP,List.length_cons]
  omega
theorem PK {m:aM} {p:bI}:∀ {l:List bI},AP m (l++[p])=AP m l+(lK p m).1
 | []=>by simp[AP]
 | q::l=>by simp only[List.cons_append,AP,PK (l:=l)];omega
theorem ZU {m:aM}:∀ {l:List bI} {s:Int},(∀ p∈l,eP p m=0)→0≤s→s≤1099511627776→L6 m l s=if 1099511627776<s+AP m l then 13 else 0
 | [],s,_,h0,h1=>by rw[L6,AP,if_neg (by omega)]
 | p::l,s,h,h0,h1=>by
  have b:=SM (h p (by simp))
  have b2:=TM (l:=l) fun q hq=>h q (by simp[hq])
  rw[L6,AP,aP _ (by omega) (by omega)]
  by_cases hc:1099511627776<s+(lK p m).1
  ·rw[if_pos hc,if_pos (by omega)]
  ·rw[if_neg hc,ZU (l:=l) (fun q hq=>h q (by simp[hq])) (by omega) (by omega)]
   congr 1
   exact propext ⟨fun h=>by omega,fun h=>by omega⟩
theorem vK {d:aH} {id:ByteArray} {K:bI×Bool→Prop} (h:K (found AC5 (partOf d id))):aI [(true,bB),(false,Sy.bool)] (c9 [aB true aE d,T.v (.string id)]) K:=aF (s:=[(true,bB),(false,.bool)]) (u9 ..) h
theorem BB {α:Type} {no:α} {o:Option α}:(found no o).2=o.isSome:=by cases o<;>rfl
theorem WV:aJ Tryz.prog 33 j8:=YR fun d m r h hb=>by
 unfold lR at h
 split at h
 case h_2=>cases h
 rename_i hok
 replace hok:M8 m=true:=hok
 obtain ⟨hu,rfl⟩:=iG h
 have u:UOk d:=kY hu
 have un:d.2.2.1.length≤1000:=u.p
 clear h hb
 have is:∀ {n:Int},iV d m=n→T.v (.int .i64 n)=T.v (.int .i64 (iV d m)):=fun h=>by rw[h]
 unfold yV
 refine u4 (r:=bB) (eE d m) (by omega) (fun X k hk hgo hbad=>?_) fun h0=>?_
 ·have bad:∀ {n:Int},n≠0→eE d m d.2.2.1[k]=n→T.v (.int .i64 n)=T.v (.int .i64 (iV d m)):=fun hn h=>by
   have h1:=hbad (by rw[h];exact hn)
   refine is ?_
   unfold iV
   rw[if_neg (by rw[h1,h];exact hn),h1,h]
  dsimp only
  rw[aO (r:=bB) hk]
  have hi:=u.pI _ (List.getElem_mem hk)
  refine aF (s:=[(false,.int .i64)]) (F4 hok hi.1 hi.2) ?_
  refine mV (fun h=>bad h (by unfold eE;rw[if_neg h])) fun h=>?_
  try rw[aO (r:=bB) hk]
  refine oT ?_
  rw[BB]
  refine dJ (fun hn=>bad (by decide) ?_) fun hn=>hgo ?_
  ·unfold eE;rw[if_pos h,if_pos]
   cases hc:bD d (dC d.2.2.1[k]) with
   | none=>rfl
   | some x=>rw[show bD d d.2.2.1[k].2.2.2.1=some x from hc] at hn;cases hn
  ·unfold eE;rw[if_pos h,if_neg]
   cases hc:bD d (dC d.2.2.1[k]) with
   | none=>rw[show bD d d.2.2.1[k].2.2.2.1=none from hc] at hn;cases hn
   | some x=>exact Bool.noConfusion
 ·have hz:∀ p∈d.2.2.1,eP p m=0:=fun p hp=>by
   have:=lG h0 p hp
   unfold eE at this
   refine Classical.byContradiction fun hc=>?_
   rw[if_neg hc] at this
   exact hc this
  have w:iV d m=if 1099511627776<AP m d.2.2.1 then 13 else 0:=by unfold iV;rw[if_pos h0,ZU hz (by omega) (by omega),Int.zero_add]
  clear h0
  refine aS d.2.2.1.length (fun k s=>s=(AP m (d.2.2.1.take k),(k:Int),())) rfl ?_
  rintro X k s hk rfl hX
  dsimp only
  refine cH (fun hlt=>?_) fun hge=>?_
  ·rw[List.length_map] at hlt
   have hlt:k<d.2.2.1.length:=by omega
   rw[aO (r:=bB) hlt]
   have hi:=u.pI _ (List.getElem_mem hlt)
   refine aF (s:=[(false,.int .i64),(false,.int .i64)]) (XF hok hi.1 hi.2) ?_
   have b:=SM (hz _ (List.getElem_mem hlt))
   have b2:=TM (l:=d.2.2.1.take k) fun p hp=>hz p (List.mem_of_mem_take hp)
   rw[List.length_take] at b2
   refine hX _ hlt ?_
   rw[List.take_succ_eq_append_getElem hlt,PK]
   rw[aP (AP m (d.2.2.1.take k)+(lK d.2.2.1[k] m).1) (by omega) (by omega),aP ((k:Int)+1) (by omega) (by omega)]
   rfl
  ·rw[List.length_map] at hge
   have:k=d.2.2.1.length:=by omega
   subst this
   rw[List.take_length]
   refine cH (fun h=>is (by rw[w,if_pos h])) fun h=>is (by rw[w,if_neg h])
noncomputable def DI:Env:=Env.of [(79,.pure cN)]
def NU:FuncId→Hint:=fun _=>aU
theorem UC:aG Tryz.prog DI:=aG.cons (x:=.pure cN) wI (aG.nil _)
def D2 (a0:xV) (R:T→Prop):Prop :=
 aI [(false,Sy.bool)] (cN [T.v (.string a0.1)]) fun (y0:Bool) =>
 aC (!y0) (R (T.v (.int .i64 6)))
 (aI [(false,Sy.bool)] (cN [T.v (.string a0.2.1)]) fun (y1:Bool) =>
 aC (!y1) (R (T.v (.int .i64 6)))
 (aI [(false,Sy.bool)] (cN [T.v (.string a0.2.2.1)])
 fun (y2:Bool) =>
 aC (!y2) (R (T.v (.int .i64 6)))
 (aC (decide (a0.2.1=a0.2.2.1)) (R (T.v (.int .i64 2)))
 (aC (!decide (a0.2.2.2.1=1))
 (aC (!decide (a0.2.2.2.1=2)) (R (T.v (.int .i64 10)))
 (aC (decide (a0.2.2.2.2.1<1)) (R (T.v (.int .i64 9)))
 (aC (decide (32768<a0.2.2.2.2.1))
 (R (T.v (.int .i64 9)))
 (aC (decide (a0.2.2.2.2.2<1)) (R (T.v (.int .i64 9)))
 (aC (decide (3<a0.2.2.2.2.2))
 (R (T.v (.int .i64 9)))
 (R (T.v (.int .i64 0))))))))
 (aC (decide (a0.2.2.2.2.1<1)) (R (T.v (.int .i64 9)))
 (aC (decide (32768<a0.2.2.2.2.1)) (R (T.v (.int .i64 9)))
 (aC (decide (a0.2.2.2.2.2<1)) (R (T.v (.int .i64 9)))
 (aC (decide (3<a0.2.2.2.2.2)) (R (T.v (.int .i64 9)))
 (R (T.v (.int .i64 0)))))))))))
theorem QW ( a0 R):bK aV Tryz.prog DI NU 8 84 [aB true gN a0] R=D2 a0 R:=by kernel_rfl
abbrev xB:Sh:=[(true,gN)]
def AQ8 (s:xV):Bool:=AU s.1&&(AU s.2.1&&AU s.2.2.1)
def tV (s:xV):Int:=if iD s.1=false∨iD s.2.1=false∨iD s.2.2.1=false then 6 else if s.2.1=s.2.2.1 then 2 else if ¬ s.2.2.2.1=1∧¬ s.2.2.2.1=2 then 10 else if s.2.2.2.2.1<1∨32768<s.2.2.2.2.1∨s.2.2.2.2.2<1∨3<s.2.2.2.2.2 then 9 else 0
def nZ (s:xV):Option T:=match AQ8 s with
 | true=>some (T.v (Value.int .i64 (tV s)))
 | false=>none
noncomputable def mT:List T→Option (T):=gS xB nZ
theorem SA {a0}:mT [aB true gN a0]=nZ (a0):=a7 (s:=xB) rfl (a0) rfl
theorem ADL (h:∀ a0 r,nZ (a0)=some r→cD xB (a0)→D2 a0 (fun y=>y=r)):aJ Tryz.prog 84 mT :=
 aR (E:=DI) (Hs:=NU) UC aZ a6 (aN rfl) 8 ⟨_,_,Tryz.func84,rfl⟩ rfl fun x r h1 h2=>by
  let a0:=x
  rw[show Sh.bO xB (a0)=[aB true gN a0] from rfl,QW]
  exact h a0 r h1 h2
theorem ACB:aJ Tryz.prog 84 mT:=ADL fun y r h hb=>by
 unfold nZ at h
 split at h
 case h_2=>cases h
 rename_i hok
 cases h
 simp only[AQ8,Bool.and_eq_true] at hok
 clear hb
 have is:∀ {n:Int},tV y=n→T.v (.int .i64 n)=T.v (.int .i64 (tV y)):=fun h=>by rw[h]
 unfold D2
 refine lJ hok.1 ?_
 refine dJ (fun h=>is (by unfold tV;rw[if_pos (.inl h)])) fun i1=>lJ hok.2.1 ?_
 refine dJ (fun h=>is (by unfold tV;rw[if_pos (.inr (.inl h))])) fun i2=>lJ hok.2.2 ?_
 refine dJ (fun h=>is (by unfold tV;rw[if_pos (.inr (.inr h))])) fun i3=>?_
 have w:tV y=if y.2.1=y.2.2.1 then 2 else if ¬ y.2.2.2.1=1∧¬ y.2.2.2.1=2 then 10 else if y.2.2.2.2.1<1∨32768<y.2.2.2.2.1∨y.2.2.2.2.2<1∨3<y.2.2.2.2.2 then 9 else 0:=by
  unfold tV;rw[if_neg (by simp only[show iD y.1=true from i1,show iD y.2.1=true from i2,show iD y.2.2.1=true from i3];decide)]
 repeat' first
  | refine mV (fun h=>?_) (fun h=>?_)
  | refine cH (fun h=>?_) (fun h=>?_)
 all_goals (refine is ?_;rw[w];clear w is;simp_all)
noncomputable def DJ:Env:=Env.of [(84,.pure mT),(85,.pure c9)]
def NV:FuncId→Hint:=fun f=>match f == 34 with|true=>⟨fun r=>match r == 2 with|true=>.inv [.val 3 false (.int .i64)]|false=>.none,fun _ _=>none,fun _=>none⟩|false=>aU
theorem UD:aG Tryz.prog DJ:=aG.cons (x:=.pure mT) ACB (aG.cons (x:=.pure c9) wJ (aG.nil _))
def D3 (a0:aH) (R:T→Prop):Prop :=
 a8 (Int×PUnit)
 (fun (X0:Int×PUnit→Prop) (s1:Int×PUnit) =>
 aC (decide (s1.1<(↑(List.map gN.enc a0.2.2.2.1).length:Int)))
 (aQ gN (List.map gN.enc a0.2.2.2.1) s1.1 fun (y2:xV) =>
 aI [(false,Sy.int IntKind.i64)] (mT [aB true gN y2])
 fun (y3:Int) =>
 aC (!decide (y3=0)) (R (T.v (.int .i64 y3)))
 (aQ gN (List.map gN.enc a0.2.2.2.1) s1.1 fun (y4:xV) =>
 aI [(true,bB),(false,Sy.bool)]
 (c9 [aB true aE a0,T.v (.string y4.2.1)])
 fun (y5:bI×Bool) =>
 aQ gN (List.map gN.enc a0.2.2.2.1) s1.1 fun (y6:xV) =>
 aI [(true,bB),(false,Sy.bool)]
 (c9 [aB true aE a0,T.v (.string y6.2.2.1)])
 fun (y7:bI×Bool) =>
 aC (!y5.2) (R (T.v (.int .i64 8)))
 (aC (!y7.2) (R (T.v (.int .i64 8)))
 (X0 (IntKind.i64.wrap (s1.1+1),())))))
 (R (T.v (.int .i64 0))))
 (0,())
theorem QX ( a0 R):bK aV Tryz.prog DJ NV 8 34 [aB true aE a0] R=D3 a0 R:=by kernel_rfl
abbrev xC:Sh:=[(true,aE)]
def AJ (d:aH):Option T:=lZ d (T.v (Value.int .i64 (bA (vQ d) d.2.2.2.1)))
noncomputable def mU:List T→Option (T):=gS xC AJ
theorem SB {a0}:mU [aB true aE a0]=AJ (a0):=a7 (s:=xC) rfl (a0) rfl
theorem ADM (h:∀ a0 r,AJ (a0)=some r→cD xC (a0)→D3 a0 (fun y=>y=r)):aJ Tryz.prog 34 mU :=
 aR (E:=DJ) (Hs:=NV) UD aZ a6 (aN rfl) 8 ⟨_,_,Tryz.func34,rfl⟩ rfl fun x r h1 h2=>by
  let a0:=x
  rw[show Sh.bO xC (a0)=[aB true aE a0] from rfl,QX]
  exact h a0 r h1 h2
theorem ACC:aJ Tryz.prog 34 mU:=ADM fun d r h hb=>by
 obtain ⟨hu,rfl⟩:=iG h
 have u:=kY hu
 have un:=u.s
 clear h hb
 unfold D3
 refine u4 (r:=gN) (vQ d) (by omega) (fun X k hk hok hbad=>?_) fun h0=>by rw[h0]
 dsimp only
 have hi:=u.sI _ (List.getElem_mem hk)
 generalize hy:d.2.2.2.1[k]=y at hi hok hbad
 have bad:∀ {n:Int},n≠0→vQ d y=n→T.v (.int .i64 n)=T.v (.int .i64 (bA (vQ d) d.2.2.2.1)):=fun hn h=>by
  rw[hbad (by rw[h];exact hn),h]
 have w:vQ d y=if tV y=0 then (if (partOf d y.2.1).isNone=true∨(partOf d y.2.2.1).isNone=true then 8 else 0) else tV y:=by
  unfold vQ tV
  by_cases g1:iD y.1=false∨iD y.2.1=false∨iD y.2.2.1=false
  ·simp only[if_pos g1];rw[if_neg (by decide)]
  simp only[if_neg g1]
  by_cases g2:y.2.1=y.2.2.1
  ·simp only[if_pos g2];rw[if_neg (by decide)]
  simp only[if_neg g2]
  by_cases g3:¬ y.2.2.2.1=1∧¬ y.2.2.2.1=2
  ·simp only[if_pos g3];rw[if_neg (by decide)]
  simp only[if_neg g3]
  by_cases g4:y.2.2.2.2.1<1∨32768<y.2.2.2.2.1∨y.2.2.2.2.2<1∨3<y.2.2.2.2.2
  ·simp only[if_pos g4];rw[if_neg (by decide)]
  simp only[if_neg g4]
  rw[if_pos trivial]
 rw[aO (r:=gN) hk]
 rw[hy]
 refine aF (s:=[(false,.int .i64)]) (y:=tV y) ((SA ..).trans (by unfold nZ AQ8;rw[hi.1,hi.2.1,hi.2.2];rfl)) ?_
 refine mV (fun h=>bad h (by rw[w,if_neg h])) fun h=>?_
 rw[if_pos h] at w
 rw[aO (r:=gN) hk,hy]
 refine vK ?_
 rw[aO (r:=gN) hk,hy]
 refine vK ?_
 rw[BB,BB]
 cases h1:partOf d y.2.1 with
 | none=>exact dJ (fun _=>bad (by decide) (by rw[w,h1];rfl)) fun h=>Bool.noConfusion h
 | some a =>
  refine dJ (fun h=>Bool.noConfusion h) fun _=>?_
  cases h2:partOf d y.2.2.1 with
  | none=>exact dJ (fun _=>bad (by decide) (by rw[w,h2];simp)) fun h=>Bool.noConfusion h
  | some b=>exact dJ (fun h=>Bool.noConfusion h) fun _=>hok (by rw[w,h1,h2];rfl)
noncomputable def C8:Env:=Env.of [(41,.pure bV)]
def NK:FuncId→Hint:=fun _=>aU
theorem T2:aG Tryz.prog C8:=aG.cons (x:=.pure bV) j4 (aG.nil _)
def DS (a0:aH) (a1:ByteArray) (R:T→Prop):Prop :=
 aI [(true,bM),(false,Sy.bool)]
 (bV [aB true aE a0,T.v (.string a1)]) fun (y0:cW×Bool) =>
 aC y0.2 (R (T.v (.bool (decide (y0.1.2.1=1))))) (R (T.v (.bool false)))
theorem QJ ( a0 a1 R):bK aV Tryz.prog C8 NK 8 86 [aB true aE a0,aB false Sy.str a1] R=DS a0 a1 R:=by kernel_rfl
abbrev wY:Sh:=[(true,aE),(false,Sy.str)]
def AA (x:aH×ByteArray):Option T:=some (T.v (.bool (BN x.1 x.2)))
noncomputable def bT:List T→Option (T):=gS wY AA
theorem R0 {a0 a1}:bT [aB true aE a0,T.v (.string a1)]=AA (a0,a1):=a7 (s:=wY) rfl (a0,a1) rfl
theorem ADB (h:∀ a0 a1 r,AA (a0,a1)=some r→cD wY (a0,a1)→DS a0 a1 (fun y=>y=r)):aJ Tryz.prog 86 bT :=
 aR (E:=C8) (Hs:=NK) T2 aZ a6 (aN rfl) 8 ⟨_,_,Tryz.func86,rfl⟩ rfl fun x r h1 h2=>by
  obtain ⟨a0,a1⟩:=x
  rw[show Sh.bO wY (a0,a1)=[aB true aE a0,aB false Sy.str a1] from rfl,QJ]
  exact h a0 a1 r h1 h2
theorem KE:aJ Tryz.prog 86 bT:=ADB fun d id r h hb=>by
 cases h
 unfold DS
 refine oT ?_
 have w:BN d id=match bD d id with
  | some n=>decide (n.2.1=1)
  | none=>false:=rfl
 cases hn:bD d id with
 | none=>rw[hn] at w;exact GN (fun h=>Bool.noConfusion h) fun _=>eR w.symm
 | some n=>rw[hn] at w;exact GN (fun _=>eR w.symm) fun h=>Bool.noConfusion h
theorem KZ {d:aH} {id:ByteArray} {K:Bool→Prop} (h:K (BN d id)):aI [(false,Sy.bool)] (bT [aB true aE d,T.v (.string id)]) K:=aF (s:=AV) (R0 ..) h
noncomputable def DD:Env:=Env.of [(89,.pure hU),(86,.pure bT)]
def NP:FuncId→Hint:=fun f=>match f == 36 with|true=>⟨fun r=>match r == 2 with|true=>.inv [.val 3 false (.int .i64)]|false=>.none,fun _ _=>none,fun _=>none⟩|false=>aU
theorem T7:aG Tryz.prog DD:=aG.cons (x:=.pure hU) OB (aG.cons (x:=.pure bT) KE (aG.nil _))
def DX (a0:aH) (R:T→Prop):Prop :=
 a8 (Int×PUnit)
 (fun (X0:Int×PUnit→Prop) (s1:Int×PUnit) =>
 aC (decide (s1.1<(↑(List.map fT.enc a0.2.2.2.2.2).length:Int)))
 (aQ fT (List.map fT.enc a0.2.2.2.2.2) s1.1 fun (y2:qC) =>
 aC (decide (y2.1<1)) (R (T.v (.int .i64 10)))
 (aC (decide (3<y2.1)) (R (T.v (.int .i64 10)))
 (aC (decide (y2.2.2=y2.2.1)) (R (T.v (.int .i64 2)))
 (aI [(true,aX),(false,Sy.bool)]
 (hU [aB true aE a0,T.v (.string y2.2.2)])
 fun (y3:bZ×Bool) =>
 aC (decide (y2.1=1))
 (aC (decide (y2.2.2 = { data:=#[] }))
 (aI [(false,Sy.bool)]
 (bT [aB true aE a0,T.v (.string y2.2.1)])
 fun (y4:Bool) =>
 aC (!y4) (R (T.v (.int .i64 8)))
 (X0 (IntKind.i64.wrap (s1.1+1),())))
 (aI [(false,Sy.bool)]
 (bT [aB true aE a0,T.v (.string y2.2.2)])
 fun (y5:Bool) =>
 aC y5
 (aI [(false,Sy.bool)]
 (bT [aB true aE a0,T.v (.string y2.2.1)])
 fun (y6:Bool) =>
 aC (!y6) (R (T.v (.int .i64 8)))
 (X0 (IntKind.i64.wrap (s1.1+1),())))
 (aC (decide (y2.1=2))
 (aI [(false,Sy.bool)]
 (bT [aB true aE a0,T.v (.string y2.2.2)])
 fun (y7:Bool) =>
 aC y7
 (aI [(false,Sy.bool)]
 (bT
 [aB true aE a0,T.v (.string y2.2.1)])
 fun (y8:Bool) =>
 aC (!y8) (R (T.v (.int .i64 8)))
 (X0 (IntKind.i64.wrap (s1.1+1),())))
 (aC (decide (y2.1=3))
 (aI [(false,Sy.bool)]
 (bT
 [aB true aE a0,T.v (.string y2.2.1)])
 fun (y9:Bool) =>
 aC (!y9) (R (T.v (.int .i64 8)))
 (aC (!y3.2) (R (T.v (.int .i64 8)))
 (X0 (IntKind.i64.wrap (s1.1+1),()))))
 (aI [(false,Sy.bool)]
 (bT
 [aB true aE a0,T.v (.string y2.2.1)])
 fun (y10:Bool) =>
 aC (!y10) (R (T.v (.int .i64 8)))
 (R (T.v (.int .i64 8))))))
 (aC (decide (y2.1=3))
 (aI [(false,Sy.bool)]
 (bT
 [aB true aE a0,T.v (.string y2.2.1)])
 fun (y11:Bool) =>
 aC (!y11) (R (T.v (.int .i64 8)))
 (aC (!y3.2) (R (T.v (.int .i64 8)))
 (X0 (IntKind.i64.wrap (s1.1+1),()))))
 (aI [(false,Sy.bool)]
 (bT
 [aB true aE a0,T.v (.string y2.2.1)])
 fun (y12:Bool) =>
 aC (!y12) (R (T.v (.int .i64 8)))
 (R (T.v (.int .i64 8))))))))
 (aC (decide (y2.1=2))
 (aI [(false,Sy.bool)]
 (bT [aB true aE a0,T.v (.string y2.2.2)])
 fun (y13:Bool) =>
 aC y13
 (aI [(false,Sy.bool)]
 (bT [aB true aE a0,T.v (.string y2.2.1)])
 fun (y14:Bool) =>
 aC (!y14) (R (T.v (.int .i64 8)))
 (X0 (IntKind.i64.wrap (s1.1+1),())))
 (aC (decide (y2.1=3))
 (aI [(false,Sy.bool)]
 (bT [aB true aE a0,T.v (.string y2.2.1)])
 fun (y15:Bool) =>
 aC (!y15) (R (T.v (.int .i64 8)))
 (aC (!y3.2) (R (T.v (.int .i64 8)))
 (X0 (IntKind.i64.wrap (s1.1+1),()))))
 (aI [(false,Sy.bool)]
 (bT [aB true aE a0,T.v (.string y2.2.1)])
 fun (y16:Bool) =>
 aC (!y16) (R (T.v (.int .i64 8)))
 (R (T.v (.int .i64 8))))))
 (aC (decide (y2.1=3))
 (aI [(false,Sy.bool)]
 (bT [aB true aE a0,T.v (.string y2.2.1)])
 fun (y17:Bool) =>
 aC (!y17) (R (T.v (.int .i64 8)))
 (aC (!y3.2) (R (T.v (.int .i64 8)))
 (X0 (IntKind.i64.wrap (s1.1+1),()))))
 (aI [(false,Sy.bool)]
 (bT [aB true aE a0,T.v (.string y2.2.1)])
 fun (y18:Bool) =>
 aC (!y18) (R (T.v (.int .i64 8)))
 (R (T.v (.int .i64 8))))))))))
 (R (T.v (.int .i64 0))))
 (0,())
theorem QO ( a0 R):bK aV Tryz.prog DD NP 8 36 [aB true aE a0] R=DX a0 R:=by kernel_rfl
abbrev w6:Sh:=[(true,aE)]
def AF (d:aH):Option T:=lZ d (T.v (Value.int .i64 (bA (vI d) d.2.2.2.2.2)))
noncomputable def mO:List T→Option (T):=gS w6 AF
theorem R4 {a0}:mO [aB true aE a0]=AF (a0):=a7 (s:=w6) rfl (a0) rfl
theorem ADG (h:∀ a0 r,AF (a0)=some r→cD w6 (a0)→DX a0 (fun y=>y=r)):aJ Tryz.prog 36 mO :=
 aR (E:=DD) (Hs:=NP) T7 aZ a6 (aN rfl) 8 ⟨_,_,Tryz.func36,rfl⟩ rfl fun x r h1 h2=>by
  let a0:=x
  rw[show Sh.bO w6 (a0)=[aB true aE a0] from rfl,QO]
  exact h a0 r h1 h2
theorem Y7 {d:aH} {id:ByteArray} {K:bZ×Bool→Prop} (h:K (found noPack (kK d id))):aI [(true,aX),(false,Sy.bool)] (hU [aB true aE d,T.v (.string id)]) K:=aF (s:=[(true,aX),(false,.bool)]) (F3 ..) h
theorem AB6:aJ Tryz.prog 36 mO:=ADG fun d r h hb=>by
 obtain ⟨hu,rfl⟩:=iG h
 have u:=kY hu
 have un:=u.r
 clear h hb
 unfold DX
 refine j3 (r:=fT) (vI d) (by omega) (fun X s y hy hok hbad=>?_) fun h0=>by rw[h0]
 have bad:∀ {n:Int},n≠0→vI d y=n→T.v (.int .i64 n)=T.v (.int .i64 (bA (vI d) d.2.2.2.2.2)):=fun hn h=>by
  rw[hbad (by rw[h];exact hn),h]
 clear hbad
 have fi:(found noPack (kK d y.2.2)).2=(kK d y.2.2).isSome:=BB
 repeat' first
  | (exfalso;omega)
  | refine KZ ?_
  | refine Y7 ?_
  | refine mV (fun h=>?_) (fun h=>?_)
  | refine cH (fun h=>?_) (fun h=>?_)
  | refine dJ (fun h=>?_) (fun h=>?_)
  | refine GN (fun h=>?_) (fun h=>?_)
 all_goals first
  | (exfalso;omega)
  | (refine bad (by decide) ?_;clear bad hok;unfold vI;simp_all[Option.isSome_iff_ne_none];done)
  | (refine hok ?_;clear bad hok;unfold vI;simp_all[Option.isSome_iff_ne_none];done)
  | (refine bad (by decide) ?_;clear bad hok;unfold vI;simp_all[Option.isSome_iff_ne_none];omega)
  | (refine hok ?_;clear bad hok;unfold vI;simp_all[Option.isSome_iff_ne_none];omega)
end Go.Pv
namespace Go.Pv
open Go Go.Proofs
noncomputable def C5:Env:=Env.of []
def NH:FuncId→Hint:=fun f=>match f == 125 with|true=>⟨fun r=>match r == 2 with|true=>.inv [.val 5 false (.int .i64)]|false=>.none,fun _ _=>none,fun _=>none⟩|false=>aU
theorem TZ:aG Tryz.prog C5:=aG.nil _
def DP (a0:Int) (a1:List aK) (R:T→Prop):Prop :=
 a8 (Int×PUnit)
 (fun (X0:Int×PUnit→Prop) (s1:Int×PUnit) =>
 aC (decide (s1.1<(↑(List.map aA.enc a1).length:Int)))
 (aQ aA (List.map aA.enc a1) s1.1 fun (y2:aK) =>
 aQ aA (List.map aA.enc a1) s1.1 fun (y3:aK) =>
 aC (decide (y2.1<0)) (R (T.v (.int .i64 9)))
 (aC (decide (a0≤y2.1)) (R (T.v (.int .i64 9)))
 (aC (decide (y3.2<0)) (R (T.v (.int .i64 9)))
 (aC (decide (a0≤y3.2)) (R (T.v (.int .i64 9)))
 (aC (decide (y2.1=y3.2)) (R (T.v (.int .i64 2)))
 (X0 (IntKind.i64.wrap (s1.1+1),())))))))
 (R (T.v (.int .i64 0))))
 (0,())
theorem QC ( a0 a1 R):bK aV Tryz.prog C5 NH 8 125 [aB false (Sy.int IntKind.i64) a0,aB false aA.li a1] R=DP a0 a1 R:=by kernel_rfl
abbrev wV:Sh:=[(false,(Sy.int IntKind.i64)),(false,aA.li)]
def z7 (x:Int×List aK):Option T:=LD x.2 (T.v (Value.int .i64 (bA (uX x.1) x.2)))
noncomputable def mL:List T→Option (T):=gS wV z7
theorem RX {a0 a1}:mL [T.v (.int .i64 a0),T.sl false (List.map aA.enc a1)]=z7 (a0,a1):=a7 (s:=wV) rfl (a0,a1) rfl
theorem AC8 (h:∀ a0 a1 r,z7 (a0,a1)=some r→cD wV (a0,a1)→DP a0 a1 (fun y=>y=r)):aJ Tryz.prog 125 mL :=
 aR (E:=C5) (Hs:=NH) TZ aZ a6 (aN rfl) 8 ⟨_,_,Tryz.func125,rfl⟩ rfl fun x r h1 h2=>by
  obtain ⟨a0,a1⟩:=x
  rw[show Sh.bO wV (a0,a1)=[aB false (Sy.int IntKind.i64) a0,aB false aA.li a1] from rfl,QC]
  exact h a0 a1 r h1 h2
theorem AB0:aJ Tryz.prog 125 mL:=AC8 fun n l r h hb=>by
 obtain ⟨hl,rfl⟩:=LF h
 have hl:l.length≤140737488355328:=hl
 clear h hb
 unfold DP
 refine u4 (r:=aA) (uX n) hl (fun X k hk hok hbad=>?_) fun h0=>?_
 ·have bad:∀ {m:Int},m≠0→uX n l[k]=m→T.v (.int .i64 m)=T.v (.int .i64 (bA (uX n) l)):=fun hn h=>by
   rw[hbad (by rw[h];exact hn),h]
  dsimp only
  rw[aO (r:=aA) hk,aO (r:=aA) hk]
  clear hbad
  generalize l[k]=y at hok bad
  repeat' first
   | refine mV (fun h=>?_) (fun h=>?_)
   | refine cH (fun h=>?_) (fun h=>?_)
  all_goals first
   | (exfalso;omega)
   | (refine bad (by decide) ?_;clear bad hok;unfold uX;first|(rw[if_pos (by omega)];done)|(rw[if_neg (by omega),if_pos (by omega)];done))
   | (refine hok ?_;clear bad hok;unfold uX;rw[if_neg (by omega),if_neg (by omega)];done)
 ·show _=T.v (.int .i64 (bA (uX n) l))
  rw[h0]
noncomputable def DF:Env:=Env.of [(125,.pure mL)]
def NR:FuncId→Hint:=fun f=>match f == 88 with|true=>⟨fun r=>match r == 8 with|true=>.inv [.own 7 1 (.int .i64),.arr 0 1 .bool]|false=>match r == 11 with|true=>.inv [.arr 2 1 .bool,.val 10 false (.int .i64)]|false=>match r == 17 with|true=>.inv [.val 11 false (.int .i64),.val 12 false (.int .i64)]|false=>.none,fun _ _=>none,fun _=>none⟩|false=>aU
theorem T9:aG Tryz.prog DF:=aG.cons (x:=.pure mL) AB0 (aG.nil _)
def DZ (a0:Int) (a1:List aK) (R:T→Prop):Prop :=
 aC (decide (a0<0))
 (cL (T.v (.int .i64 9)).flat
 (R (T.cA [T.sl false [],T.v (.int .i64 9)])))
 (aC (decide (256<a0))
 (cL (T.v (.int .i64 9)).flat
 (R (T.cA [T.sl false [],T.v (.int .i64 9)])))
 (aI [(false,Sy.int IntKind.i64)]
 (mL [T.v (.int .i64 a0),T.sl false (List.map aA.enc a1)])
 fun (y0:Int) =>
 aC (!decide (y0=0))
 (cL (T.v (.int .i64 y0)).flat
 (R (T.cA [T.sl false [],T.v (.int .i64 y0)])))
 (cL
 ((decide (a0=a0)||decide (a0=0))&&decide (0≤a0)&&decide (a0*(↑1:Int)≤140737488355328) &&
 decide (a0≤140737488355328))
 (bH Sy.bool (List.replicate (Int.toNat a0) [T.v (.bool false)])
 fun (y1:List Bool) =>
 a8 (List Int×List Bool×PUnit)
 (fun (X2:List Int×List Bool×PUnit→Prop) (s3:List Int×List Bool×PUnit) =>
 aC (decide ((↑(List.map (Sy.int IntKind.i64).enc s3.1).length:Int)<a0))
 (cL
 ((decide (a0=a0)||decide (a0=0))&&decide (0≤a0) &&
 decide (a0*(↑1:Int)≤140737488355328) &&
 decide (a0≤140737488355328))
 (bH Sy.bool (List.replicate (Int.toNat a0) [T.v (.bool false)])
 fun (y4:List Bool) =>
 a8 (List Bool×Int×PUnit)
 (fun (X5:List Bool×Int×PUnit→Prop) (s6:List Bool×Int×PUnit) =>
 aC (decide (s6.2.1<(↑(List.map aA.enc a1).length:Int)))
 (aQ aA (List.map aA.enc a1) s6.2.1
 fun (y7:aK) =>
 aQ Sy.bool (List.map Sy.bool.enc s3.2.1) y7.1
 fun (y8:Bool) =>
 l6 Sy.bool (List.map Sy.bool.enc s3.2.1) (Int.toNat y7.1) 0
 fun (y9:Bool) =>
 aC (!y9)
 (aQ aA (List.map aA.enc a1) s6.2.1
 fun (y10:aK) =>
 aQ Sy.bool (List.map Sy.bool.enc s6.1) y10.2
 fun (y11:Bool) =>
 AIW (List.map Sy.bool.enc s6.1) (Int.toNat y10.2)
 fun (y12:List T) =>
 cL (decide (1≤y12.length))
 (bH Sy.bool
 ((List.map Sy.bool.enc s6.1).set (Int.toNat y10.2)
 (cF y12 0 [T.v (.bool true)]))
 fun (y13:List Bool) =>
 X5 (y13,IntKind.i64.wrap (s6.2.1+1),())))
 (bH Sy.bool (List.map Sy.bool.enc s6.1)
 fun (y14:List Bool)=>X5 (y14,IntKind.i64.wrap (s6.2.1+1),())))
 (a8 (Int×Int×PUnit)
 (fun (X15:Int×Int×PUnit→Prop) (s16:Int×Int×PUnit) =>
 aC (decide (0≤s16.2.1))
 (aQ Sy.bool (List.map Sy.bool.enc s3.2.1) s16.2.1
 fun (y17:Bool) =>
 l6 Sy.bool (List.map Sy.bool.enc s3.2.1)
 (Int.toNat s16.2.1) 0 fun (y18:Bool) =>
 aC (!y18)
 (aQ Sy.bool (List.map Sy.bool.enc s6.1) s16.2.1
 fun (y19:Bool) =>
 l6 Sy.bool (List.map Sy.bool.enc s6.1)
 (Int.toNat s16.2.1) 0 fun (y20:Bool) =>
 aC (!y20)
 (X15 (s16.2.1,IntKind.i64.wrap (s16.2.1-1),()))
 (X15 (s16.1,IntKind.i64.wrap (s16.2.1-1),())))
 (X15 (s16.1,IntKind.i64.wrap (s16.2.1-1),())))
 (aC (decide (s16.1<0))
 (cL (T.v (.int .i64 20)).flat
 (R
 (T.cA
 [T.sl false [],T.v (.int .i64 20)])))
 (aQ Sy.bool (List.map Sy.bool.enc s3.2.1) s16.1
 fun (y21:Bool) =>
 AIW (List.map Sy.bool.enc s3.2.1) (Int.toNat s16.1)
 fun (y22:List T) =>
 cL (decide (1≤y22.length))
 (cL
 (decide
 (((List.map (Sy.int IntKind.i64).enc s3.1).length+1)*8 ≤
 140737488355328) &&
 decide
 ((List.map (Sy.int IntKind.i64).enc s3.1).length+1 ≤
 140737488355328))
 (bH (Sy.int IntKind.i64)
 (List.map (Sy.int IntKind.i64).enc s3.1 ++
 [[T.v (.int .i64 s16.1)]])
 fun (y23:List Int) =>
 bH Sy.bool
 ((List.map Sy.bool.enc s3.2.1).set (Int.toNat s16.1)
 (cF y22 0 [T.v (.bool true)]))
 fun (y24:List Bool)=>X2 (y23,y24,()))))))
 (-1,IntKind.i64.wrap (a0-1),())))
 (y4,0,())))
 (cL
 ((List.map (Sy.int IntKind.i64).enc s3.1).all fun (r:List T) =>
 r.all T.flat)
 (cL (T.v (.int .i64 0)).flat
 (R
 (T.cA
 [T.sl false (List.map (Sy.int IntKind.i64).enc s3.1),
 T.v (.int .i64 0)])))))
 ([],y1,())))))
theorem QQ ( a0 a1 R):TN aV Tryz.prog DF NR 8 88 [aB false (Sy.int IntKind.i64) a0,aB false aA.li a1] R=DZ a0 a1 R:=by kernel_rfl
abbrev w8:Sh:=[(false,(Sy.int IntKind.i64)),(false,aA.li)]
abbrev kN:Sh:=[(false,(Sy.int IntKind.i64).li),(false,Sy.int IntKind.i64)]
def AH (x:Int×List aK):Option T:=LD x.2 (Sh.enc kN (gI x.1 x.2))
noncomputable def mQ:List T→Option (T):=gS w8 AH
theorem R6 {a0 a1}:mQ [T.v (.int .i64 a0),T.sl false (List.map aA.enc a1)]=AH (a0,a1):=a7 (s:=w8) rfl (a0,a1) rfl
theorem ADI (h:∀ a0 a1 r,AH (a0,a1)=some r→cD w8 (a0,a1)→DZ a0 a1 (fun y=>y=r)):I9 Tryz.prog 88 mQ :=
 AOI (E:=DF) (Hs:=NR) T9 aZ a6 (aN rfl) 8 ⟨_,_,Tryz.func88,rfl⟩ rfl fun x r h1 h2=>by
  obtain ⟨a0,a1⟩:=x
  rw[show Sh.bO w8 (a0,a1)=[aB false (Sy.int IntKind.i64) a0,aB false aA.li a1] from rfl,QQ]
  exact h a0 a1 r h1 h2
theorem AB8:I9 Tryz.prog 88 mQ:=ADI fun n l r h hb=>by
 obtain ⟨hl,rfl⟩:=LF h
 clear h
 have hl:l.length≤140737488355328:=hl
 unfold DZ
 refine cH (fun h=>?_) fun hn0=>?_
 ·refine ⟨rfl,?_⟩
  show _=Sh.enc kN (gI n l)
  rw[gI,if_pos (Or.inl h)];rfl
 refine cH (fun h=>?_) fun hn1=>?_
 ·refine ⟨rfl,?_⟩
  show _=Sh.enc kN (gI n l)
  rw[gI,if_pos (Or.inr h)];rfl
 refine aF (s:=[(false,.int .i64)]) (y:=bA (uX n) l) (by rw[RX];exact nM _ hl) ?_
 refine mV (fun h0=>?_) (fun h0=>?_)
 ·refine ⟨rfl,?_⟩
  show _=Sh.enc kN (gI n l)
  rw[gI,if_neg (by omega),if_neg h0];rfl
 have hv:gI n l=nP l n.toNat n.toNat [] (List.replicate n.toNat false):=LI hl (by omega) (by omega) h0
 have hend:∀ e∈l,0≤e.1∧e.1<n∧0≤e.2∧e.2<n:=fun e he=>by
  have:=lG h0 e he
  unfold uX at this
  split at this
  ·exact absurd this (by decide)
  ·omega
 clear h0 hb
 obtain ⟨N,rfl⟩:∃ N:Nat,n=(N:Int):=⟨n.toNat,by omega⟩
 rw[Int.toNat_natCast] at hv ⊢
 refine ⟨by simp;omega,?_⟩
 rw[AME,eV rfl]
 refine aS N (fun k s=>s.1.length=k∧s.2.1.length=N∧nP l N (N-k) s.1 s.2.1=gI N l) ⟨rfl,by simp,by rw[hv];rfl⟩ ?_
 clear hv
 rintro X k ⟨o,t,u⟩ hk ⟨hol,htl,hr⟩ hX
 dsimp only at hol htl hr ⊢
 refine cH (fun hlt=>?_) fun hge=>?_
 ·rw[List.length_map,hol] at hlt
  have hlt:k<N:=by omega
  obtain ⟨m,hm⟩:∃ m,N-k=m+1:=⟨N-k-1,by omega⟩
  rw[hm,nP] at hr
  refine ⟨by simp;omega,?_⟩
  rw[eV rfl]
  refine aS l.length (fun j s=>s.2.1=(j:Int)∧s.1.length=N∧∀ v,s.1.getD v false=GJ (l.take j) t v) ⟨rfl,by simp,fun v=>?_⟩ ?_
  ·show (List.replicate N false).getD v false=GJ [] t v
   rw[List.getD_eq_getElem?_getD,List.getElem?_replicate];split<;>rfl
  rintro Y j ⟨w,i,u⟩ hj ⟨rfl,hwl,hw⟩ hY
  dsimp only at hwl hw ⊢
  refine cH (fun hjl=>?_) fun hjl=>?_
  ·rw[List.length_map] at hjl
   have hjl:j<l.length:=by omega
   rw[aO hjl]
   obtain ⟨e0,e1,f0,f1⟩:=hend _ (List.getElem_mem hjl)
   have ht:(l[j].1).toNat<t.length:=by omega
   have hwj:(l[j].2).toNat<w.length:=by omega
   rw[O7 e0 ht,nO ht]
   have step:∀ v,GJ (l.take (j+1)) t v=(GJ (l.take j) t v||yI t v l[j]):=fun v=>by
    unfold GJ;rw[List.take_succ_eq_append_getElem hjl,List.any_append];simp
   have hwr:IntKind.i64.wrap ((j:Int)+1)=((j+1:Nat):Int):=by rw[aP]<;>omega
   refine dJ (fun hf=>?_) fun hf=>?_
   ·rw[aO hjl,O7 f0 hwj,S7 hwj]
    refine ⟨rfl,?_⟩
    rw[ZJ hwj,eV rfl]
    refine hY _ hjl ⟨hwr,?_,fun v=>?_⟩
    ·show (List.set _ _ _).length=N
     rw[List.length_set];exact hwl
    show (w.set (l[j].2).toNat true).getD v false=_
    rw[BJ hwj,step,←hw]
    unfold yI
    rw[GZ (l:=t) false ht,hf]
    by_cases hc:v=l[j].2.toNat
    ·rw[if_pos hc,decide_eq_true (show l[j].2=(v:Int) by omega)];simp
    ·rw[if_neg hc,decide_eq_false (show ¬ l[j].2=(v:Int) by omega)];simp
   ·rw[eV rfl]
    refine hY _ hjl ⟨hwr,hwl,fun v=>?_⟩
    show w.getD v false=_
    rw[step,←hw]
    unfold yI
    rw[GZ (l:=t) false ht,hf];simp
  rw[List.length_map] at hjl
  have:j=l.length:=by omega
  subst this
  rw[List.take_length] at hw
  clear hY hjl hj
  refine aS N (fun q s=>s.2.1=(N:Int)-1-(q:Int)∧s.1=match (List.range' (N-q) q).find? (nC l t) with
   | none=>-1
   | some v=>(v:Int)) ⟨?_,rfl⟩ ?_
  ·show IntKind.i64.wrap ((N:Int)-1)=(N:Int)-1-0
   rw[aP]<;>omega
  rintro Z q ⟨x,i,u⟩ hq ⟨rfl,hx⟩ hZ
  dsimp only at hx ⊢
  refine cH (fun hqn=>?_) fun hqn=>?_
  ·have hqn:q<N:=by omega
   obtain ⟨v,hv⟩:∃ v:Nat,(N:Int)-1-(q:Int)=(v:Int):=⟨N-1-q,by omega⟩
   rw[hv]
   have hvt:v<t.length:=by omega
   have hvw:v<w.length:=by omega
   rw[aO hvt,Int.toNat_natCast,nO hvt]
   have hfind:(List.range' (N-(q+1)) (q+1)).find? (nC l t)=if nC l t v=true then some v else (List.range' (N-q) q).find? (nC l t):=by
    have e:N-(q+1)=v:=by omega
    have e2:N-q=v+1:=by omega
    rw[e,e2,List.range'_succ,List.find?_cons];cases nC l t v<;>rfl
   have fw:nC l t v=(!t[v] && !w[v]):=by unfold nC;rw[←hw,GZ (l:=t) false hvt,GZ (l:=w) false hvw]
   have nx:IntKind.i64.wrap ((v:Int)-1)=(N:Int)-1-((q+1:Nat):Int):=by rw[aP]<;>omega
   refine dJ (fun h1=>?_) fun h1=>?_
   ·rw[aO hvw,nO hvw]
    refine dJ (fun h2=>?_) fun h2=>?_
    ·refine hZ _ hqn ⟨nx,?_⟩
     show (v:Int)=_
     rw[hfind,fw,h1,h2];rfl
    ·refine hZ _ hqn ⟨nx,?_⟩
     show x=_
     rw[hfind,fw,h1,h2];exact hx
   ·refine hZ _ hqn ⟨nx,?_⟩
    show x=_
    rw[hfind,fw,h1];exact hx
  have hqN:q=N:=by omega
  rw[hqN,Nat.sub_self,←List.range_eq_range'] at hx
  clear hZ hqn hq
  cases hf:(List.range N).find? (nC l t) with
  | none =>
   rw[hf] at hx hr
   have hx:x = -1:=hx
   refine cH (fun _=>⟨rfl,?_⟩) fun h=>?_
   ·show _=Sh.enc kN (gI (N:Int) l)
    rw[←hr];rfl
   ·exfalso;omega
  | some v =>
   rw[hf] at hx hr
   have hx:x=(v:Int):=hx
   subst hx
   have hvn:v<N:=List.mem_range.1 (List.mem_of_find?_eq_some hf)
   refine cH (fun h=>by exfalso;omega) fun _=>?_
   have hvt:v<t.length:=by omega
   rw[aO hvt,Int.toNat_natCast,S7 hvt]
   refine ⟨rfl,⟨by simp;omega,?_⟩⟩
   rw[EE (r:=.int .i64) rfl o [T.v (.int .i64 (v:Int))] (v:Int) rfl,ZJ hvt,eV rfl]
   refine hX _ hlt ⟨by simp[hol],by simp[htl],?_⟩
   rw[show N-(k+1)=m by omega]
   exact hr
 ·rw[List.length_map,hol] at hge
  have hkN:k=N:=by omega
  subst hkN
  rw[Nat.sub_self,nP] at hr
  refine ⟨AGZ o,rfl,?_⟩
  show _=Sh.enc kN (gI (k:Int) l)
  rw[←hr];rfl
end Go.Pv
namespace Go.Pv
open Go Go.Proofs
def TQ (d:aH):Nat→ByteArray→Option (List ByteArray)
 | 0,_=>none
 | n+1,id=>match bD d id with
  | none=>none
  | some x=>if x.2.1=1 then some [id] else (TQ d n x.2.2).map fun c=>id::c
theorem APQ (d:aH):∀ (n:Nat) (id:ByteArray) (l:List ByteArray),PN d n id l=match TQ d n id with
  | some c=>(l++c,true)
  | none=>([],false)
 | 0,_,_=>rfl
 | n+1,id,l=>by
  unfold PN TQ
  cases bD d id with
  | none=>rfl
  | some x =>
   dsimp only
   by_cases hx:x.2.1=1
   ·rw[if_pos hx,if_pos hx]
   ·rw[if_neg hx,if_neg hx,APQ d n]
    cases TQ d n x.2.2 with
    | none=>rfl
    | some c=>simp
theorem AMW {d:aH} {n:Nat} {id:ByteArray} {c:List ByteArray} (h:TQ d n id=some c):c≠[]:=by
 cases n with
 | zero=>cases h
 | succ n =>
  unfold TQ at h
  intro hc
  subst hc
  cases hn:bD d id with
  | none=>rw[hn] at h;cases h
  | some x =>
   rw[hn] at h
   dsimp only at h
   by_cases hx:x.2.1=1
   ·rw[if_pos hx] at h;cases h
   ·rw[if_neg hx] at h
    cases h1:TQ d n x.2.2 with
    | none=>rw[h1] at h;cases h
    | some c'=>rw[h1] at h;cases h
theorem ARJ {d:aH} {id:ByteArray} (h:(up d id).2=true):TQ d 65 id=some (up d id).1:=by
 unfold up at h ⊢
 rw[APQ] at h ⊢
 cases h1:TQ d 65 id with
 | none=>rw[h1] at h;cases h
 | some c=>simp
def B3 (d:aH) (id:ByteArray):List ByteArray:=(up d id).1.reverse
theorem AL8 {d:aH} {id:ByteArray} (h:(up d id).2=true):∃ u,B3 d id=u++[id]:=by
 have h1:=ARJ h
 unfold TQ at h1
 unfold B3
 cases hn:bD d id with
 | none=>rw[hn] at h1;cases h1
 | some x =>
  rw[hn] at h1
  dsimp only at h1
  by_cases hx:x.2.1=1
  ·rw[if_pos hx] at h1;rw[←Option.some.inj h1];exact ⟨[],rfl⟩
  ·rw[if_neg hx] at h1
   cases h2:TQ d 64 x.2.2 with
   | none=>rw[h2] at h1;cases h1
   | some c=>rw[h2] at h1;rw[←Option.some.inj h1];exact ⟨c.reverse,by simp⟩
end Go.Pv
namespace Go.Pv
open Go Go.Proofs
theorem KJ {d:aH} (h:jC d=0):jU d=false∧(AS (ids d.2.1)=true∧AS (ids d.2.2.1)=true∧AS (ids d.2.2.2.1)=true∧AS (ids d.2.2.2.2.1)=true)∧WJ d=false:=by
 unfold jC at h
 split at h
 ·cases h
 split at h
 ·cases h
 split at h
 ·cases h
 rename_i h1 h2 h3
 have h2:jR d=true:=by simpa using h2
 simp only[jR,Bool.and_eq_true] at h2
 exact ⟨by simpa using h1,⟨h2.1.1.1.1,h2.1.1.1.2,h2.1.1.2,h2.1.2⟩,by simpa using h3⟩
theorem j2 {α:Type} {l:List (ByteArray×α)} {id:ByteArray} {a:ByteArray×α} (h:l.find? (fun s=>decide (s.1=id))=some a):a∈l∧a.1=id :=
 ⟨List.mem_of_find?_eq_some h,by have:=List.find?_some h;simpa using this⟩
theorem AMX {d:aH}:∀ {n:Nat} {id:ByteArray} {l:List ByteArray},(PN d n id l).2=true→(PN d n id l).1≠[]
 | 0,_,_,h=>by cases h
 | n+1,id,l,h=>by
  unfold PN at h ⊢
  cases hn:bD d id with
  | none=>rw[hn] at h;cases h
  | some x =>
   rw[hn] at h
   dsimp only at h ⊢
   by_cases h1:x.2.1=1
   ·rw[if_pos h1];simp
   ·rw[if_neg h1] at h ⊢;exact AMX h
structure VOk (d:aH):Prop where
 u:UOk d
 long:d.2.2.2.2.1.length≤64
 ATW:AS (ids d.2.2.2.2.1)=true
 none:∀ p∈d.2.2.1,bD d p.1=none
 up:∀ p∈d.2.2.1,(up d (dC p)).2=true
def okV (d:aH):Bool:=okU d&&(decide (jC d=0)&&(decide (gG d=0)&&d.2.2.1.all fun p=>(bD d (dC p)).isSome))
theorem AFF {d:aH} (h:okV d=true):VOk d:=by
 simp only[okV,Bool.and_eq_true,decide_eq_true_eq,List.all_eq_true] at h
 obtain ⟨h0,h1,h2,h3⟩:=h
 obtain ⟨f1,⟨-,-,-,f4⟩,f5⟩:=KJ h1
 refine ⟨kY h0,?_,f4,fun p hp=>?_,fun p hp=>?_⟩
 ·simp only[jU,Bool.or_eq_false_iff,decide_eq_false_iff_not] at f1;omega
 ·cases hn:bD d p.1 with
  | none=>rfl
  | some n =>
   exfalso
   obtain ⟨m1,m2⟩:=j2 hn
   have:WJ d=true:=zH (m:=ids d.2.1) (l:=ids d.2.2.1) (.inl ⟨rfl,rfl⟩) (List.any_eq_true.2 ⟨p.1,List.mem_map.2 ⟨p,hp,rfl⟩,q9.2 (m2 ▸ List.mem_map.2 ⟨n,m1,rfl⟩)⟩)
   rw[f5] at this;cases this
 ·have h4:=h3 p hp
  obtain ⟨n,hn⟩:=Option.isSome_iff_exists.1 h4
  obtain ⟨m1,m2⟩:=j2 hn
  have hup:YN d=false:=by
   unfold gG at h2
   split at h2
   ·split at h2
    ·cases h2
    ·rename_i h;simpa using h
   ·rename_i h;exact absurd h2 h
  unfold YN at hup
  rw[←m2]
  cases hc:(up d n.1).2 with
  | true=>rfl
  | false =>
   exfalso
   rw[Bool.eq_false_iff] at hup
   exact hup (List.any_eq_true.2 ⟨n,m1,by rw[hc];rfl⟩)
theorem AGF {d:aH} (v:VOk d) {p:bI} {id b:ByteArray} (hp:partOf d id=some p):p.1=id∧((bQ d p.1).1=b↔(up d (dC p)).1.getLast? = some b):=by
 obtain ⟨m1,m2⟩:=j2 hp
 refine ⟨m2,?_⟩
 have hu:=v.up p m1
 have e:bQ d p.1=(BQ (up d (dC p)).1,true):=by
  unfold bQ
  rw[v.none p m1,m2,hp]
  show o0 d (dC p)=_
  unfold o0
  rw[if_pos hu]
 rw[e]
 have hne:(up d (dC p)).1≠[]:=AMX hu
 show BQ _=b↔_
 unfold BQ
 rw[List.getLastD_eq_getLast?]
 cases hl:(up d (dC p)).1.getLast? with
 | none=>exact absurd (List.getLast?_eq_none_iff.1 hl) hne
 | some x=>exact ⟨fun h=>congrArg some h,fun h=>Option.some.inj h⟩
noncomputable def HL:Env:=Env.of [(85,.pure c9),(124,.pure gP),(14,.pure cJ)]
def U9:FuncId→Hint:=fun f=>match f == 87 with|true=>⟨fun r=>match r == 3 with|true=>.inv [.val 6 false (.int .i64)]|false=>match r == 14 with|true=>.inv [.val 11 false (.int .i64)]|false=>.none,fun _ _=>none,fun _=>none⟩|false=>aU
theorem AAC:aG Tryz.prog HL:=aG.cons (x:=.pure c9) wJ (aG.cons (x:=.pure gP) ABY (aG.cons (x:=.pure cJ) BA (aG.nil _)))
def IA (a0:aH) (a1:Int) (R:T→Prop):Prop :=
 aQ aX (List.map aX.enc a0.2.2.2.2.1) a1 fun (y0:bZ) =>
 a8 (Int×PUnit)
 (fun (X1:Int×PUnit→Prop) (s2:Int×PUnit) =>
 aC (decide (s2.1<(↑(List.map Sy.str.enc y0.2.2.1).length:Int)))
 (aQ Sy.str (List.map Sy.str.enc y0.2.2.1) s2.1 fun (y3:ByteArray) =>
 aI [(true,bB),(false,Sy.bool)]
 (c9 [aB true aE a0,T.v (.string y3)])
 fun (y4:bI×Bool) =>
 aC (!y4.2) (R (T.v (.int .i64 8)))
 (aC (!decide (y4.1.2.2.1=4))
 (aC (!decide (y4.1.2.2.1=3)) (R (T.v (.int .i64 10)))
 (aI [(false,Sy.str),(false,Sy.bool)]
 (gP [aB true aE a0,T.v (.string y4.1.1)])
 fun (y5:ByteArray×Bool) =>
 aC (!decide (y5.1=y0.2.1)) (R (T.v (.int .i64 2)))
 (a8 (Int×PUnit)
 (fun (X6:Int×PUnit→Prop) (s7:Int×PUnit) =>
 aC (decide (s7.1<a1))
 (aQ aX (List.map aX.enc a0.2.2.2.2.1) s7.1
 fun (y8:bZ) =>
 aI [(false,Sy.bool)]
 (cJ
 [T.sl false (List.map Sy.str.enc y8.2.2.1),
 T.v (.string y4.1.1)])
 fun (y9:Bool) =>
 aC y9 (R (T.v (.int .i64 7)))
 (X6 (IntKind.i64.wrap (s7.1+1),())))
 (X1 (IntKind.i64.wrap (s2.1+1),())))
 (0,()))))
 (aI [(false,Sy.str),(false,Sy.bool)]
 (gP [aB true aE a0,T.v (.string y4.1.1)])
 fun (y10:ByteArray×Bool) =>
 aC (!decide (y10.1=y0.2.1)) (R (T.v (.int .i64 2)))
 (a8 (Int×PUnit)
 (fun (X11:Int×PUnit→Prop) (s12:Int×PUnit) =>
 aC (decide (s12.1<a1))
 (aQ aX (List.map aX.enc a0.2.2.2.2.1) s12.1
 fun (y13:bZ) =>
 aI [(false,Sy.bool)]
 (cJ
 [T.sl false (List.map Sy.str.enc y13.2.2.1),
 T.v (.string y4.1.1)])
 fun (y14:Bool) =>
 aC y14 (R (T.v (.int .i64 7)))
 (X11 (IntKind.i64.wrap (s12.1+1),())))
 (X1 (IntKind.i64.wrap (s2.1+1),())))
 (0,())))))
 (R (T.v (.int .i64 0))))
 (0,())
theorem UK ( a0 a1 R):bK aV Tryz.prog HL U9 8 87 [aB true aE a0,aB false (Sy.int IntKind.i64) a1] R=IA a0 a1 R:=by kernel_rfl
abbrev CD:Sh:=[(true,aE),(false,(Sy.int IntKind.i64))]
def A1 (d:aH) (k:Nat) (b:ByteArray) (id:ByteArray):Int:=match partOf d id with
 | none=>8
 | some p=>if ¬ aY p=4∧¬ aY p=3 then 10 else if ¬ (bQ d p.1).1=b then 2 else if ((d.2.2.2.2.1.take k).any fun q=>kH (fD q) p.1)=true then 7 else 0
def FW (d:aH) (k:Nat) (x:bZ):Int:=bA (A1 d k x.2.1) (fD x)
def rD (x:aH×Int):Option T:=match decide (0≤x.2),x.1.2.2.2.2.1[x.2.toNat]? with
 | true,some k=>lZ x.1 (T.v (Value.int .i64 (FW x.1 x.2.toNat k)))
 | _,_=>none
noncomputable def qJ:List T→Option (T):=gS CD rD
theorem XA {a0 a1}:qJ [aB true aE a0,T.v (.int .i64 a1)]=rD (a0,a1):=a7 (s:=CD) rfl (a0,a1) rfl
theorem AH2 (h:∀ a0 a1 r,rD (a0,a1)=some r→cD CD (a0,a1)→IA a0 a1 (fun y=>y=r)):aJ Tryz.prog 87 qJ :=
 aR (E:=HL) (Hs:=U9) AAC aZ a6 (aN rfl) 8 ⟨_,_,Tryz.func87,rfl⟩ rfl fun x r h1 h2=>by
  obtain ⟨a0,a1⟩:=x
  rw[show Sh.bO CD (a0,a1)=[aB true aE a0,aB false (Sy.int IntKind.i64) a1] from rfl,UK]
  exact h a0 a1 r h1 h2
theorem RA {d:aH} (u:UOk d) {id:ByteArray} {K:ByteArray×Bool→Prop} (h:K (bQ d id)):aI [(false,Sy.str),(false,Sy.bool)] (gP [aB true aE d,T.v (.string id)]) K:=aF (s:=vM) ((RV ..).trans (Y6 _ u.okD u.okK (PE u.uZ (by omega)))) h
theorem AG2:aJ Tryz.prog 87 qJ:=AH2 fun d i r h hb=>by
 unfold rD at h
 split at h
 case h_2=>cases h
 rename_i y h0 hy
 have h0:0≤i:=of_decide_eq_true h0
 obtain ⟨k,rfl⟩:∃ k:Nat,i=(k:Int):=⟨i.toNat,by omega⟩
 obtain ⟨hu,rfl⟩:=iG h
 have u:UOk d:=kY hu
 clear h hb h0
 have hy:d.2.2.2.2.1[k]? = some y:=hy
 obtain ⟨hk,hy⟩:=List.getElem?_eq_some_iff.1 hy
 have hl:=u.kl y (hy ▸ List.getElem_mem hk)
 have hkl:=u.k
 unfold IA
 dsimp only
 rw[aO (r:=aX) hk,hy]
 show _
 refine j3 (r:=.str) (A1 d k y.2.1) (show (fD y).length≤_ by omega) (fun X s id hid hok hbad=>?_) fun h0=>?_
 ·have bad:∀ {n:Int},n≠0→A1 d k y.2.1 id=n→T.v (.int .i64 n)=T.v (.int .i64 (FW d k y)):=fun hn h=>by
   unfold FW
   rw[hbad (by rw[h];exact hn),h]
  clear hbad
  refine vK ?_
  cases hp:partOf d id with
  | none=>exact dJ (fun _=>bad (by decide) (by unfold A1;rw[hp])) fun h=>Bool.noConfusion h
  | some p =>
   refine dJ (fun h=>Bool.noConfusion h) fun _=>?_
   dsimp only[found]
   have w:A1 d k y.2.1 id=if ¬ aY p=4∧¬ aY p=3 then 10 else if ¬ (bQ d p.1).1=y.2.1 then 2 else if ((d.2.2.2.2.1.take k).any fun q=>kH (fD q) p.1)=true then 7 else 0:=by unfold A1;rw[hp]
   have tail:¬ (¬ aY p=4∧¬ aY p=3)→aI [(false,Sy.str),(false,Sy.bool)] (gP [aB true aE d,T.v (.string p.1)])
     (fun (y5:ByteArray×Bool)=>aC (!decide (y5.1=y.2.1)) (T.v (.int .i64 2)=T.v (.int .i64 (FW d k y)))
      (a8 (Int×PUnit) (fun (X6:Int×PUnit→Prop) (s7:Int×PUnit)=>aC (decide (s7.1<(k:Int)))
       (aQ aX (List.map aX.enc d.2.2.2.2.1) s7.1 fun (y8:bZ)=>aI [(false,Sy.bool)] (cJ [T.sl false (List.map Sy.str.enc y8.2.2.1),T.v (.string p.1)]) fun (y9:Bool) =>
        aC y9 (T.v (.int .i64 7)=T.v (.int .i64 (FW d k y))) (X6 (IntKind.i64.wrap (s7.1+1),())))
       (X (IntKind.i64.wrap (s.1+1),()))) (0,()))):=by
    intro hkind
    rw[if_neg hkind] at w
    refine RA u ?_
    refine mV (fun h=>bad (by decide) (by rw[w,if_pos h])) fun h=>?_
    rw[if_neg (fun h2=>h2 h)] at w
    refine aS k (fun j s=>s=((j:Int),())∧∀ q∈d.2.2.2.2.1.take j,kH (fD q) p.1=false) ⟨rfl,by simp⟩ ?_
    rintro Z j _ hj ⟨rfl,hall⟩ hZ
    dsimp only
    refine cH (fun hlt=>?_) fun hge=>?_
    ·have hlt:j<k:=by omega
     have hjl:j<d.2.2.2.2.1.length:=by omega
     have ht:d.2.2.2.2.1.take (j+1)=d.2.2.2.2.1.take j++[d.2.2.2.2.1[j]]:=List.take_succ_eq_append_getElem hjl
     rw[aO (r:=aX) hjl]
     refine aF (s:=AV) (y:=kH (fD d.2.2.2.2.1[j]) p.1) (rV ..) ?_
     refine GN (fun h=>bad (by decide) ?_) fun h=>hZ _ hlt ⟨?_,fun q hq=>?_⟩
     ·rw[w,if_pos]
      refine List.any_eq_true.2 ⟨d.2.2.2.2.1[j],?_,h⟩
      exact List.mem_take_iff_getElem.2 ⟨j,by omega,rfl⟩
     ·rw[show IntKind.i64.wrap ((j:Int)+1)=((j+1:Nat):Int) from aP _ (by omega) (by omega)]
     ·rw[ht] at hq
      rcases List.mem_append.1 hq with hq|hq
      ·exact hall q hq
      ·rw[List.mem_singleton.1 hq];exact h
    ·have hjk:j=k:=by omega
     subst hjk
     refine hok ?_
     rw[w,if_neg]
     intro h
     obtain ⟨q,hq,h⟩:=List.any_eq_true.1 h
     rw[hall q hq] at h;cases h
   refine mV (fun h4=>mV (fun h3=>bad (by decide) ?_) fun h3=>tail fun h=>h.2 h3) fun h4=>tail fun h=>h.1 h4
   rw[w,if_pos ⟨h4,h3⟩]
 ·show _=T.v (.int .i64 (FW d k y))
  unfold FW
  rw[h0]
theorem inst_eq {d:aH} (v:VOk d) {k:Nat} {b:ByteArray}:∀ {l S:List ByteArray},l.Nodup→(∀ id∈l,id∈S↔((d.2.2.2.2.1.take k).any fun q=>kH (fD q) id)=true)→(instE d b l S).1=bA (A1 d k b) l∧((instE d b l S).1=0→∀ id,id∈(instE d b l S).2↔id∈S∨id∈l)
 | [],S,_,_=>⟨rfl,fun _ id=>by simp[instE]⟩
 | a::l,S,hn,hS=>by
  obtain ⟨n1,n2⟩:=List.pairwise_cons.1 hn
  have hc:A1 d k b a=match partOf d a with
   | none=>8
   | some p=>if ¬ aY p=4∧¬ aY p=3 then 10 else if ¬ (bQ d p.1).1=b then 2 else if ((d.2.2.2.2.1.take k).any fun q=>kH (fD q) p.1)=true then 7 else 0:=rfl
  rw[instE,bA]
  cases hp:partOf d a with
  | none =>
   rw[hp] at hc
   have hc:A1 d k b a=8:=hc
   rw[hc];exact ⟨by show (8:Int)=_;rw[if_neg (by decide)],fun h=>by cases h⟩
  | some p =>
   rw[hp] at hc
   obtain ⟨e1,e2⟩:=AGF v (b:=b) hp
   dsimp only at hc ⊢
   by_cases c1:¬ aY p=4∧¬ aY p=3
   ·rw[if_pos c1] at hc ⊢;rw[hc];exact ⟨by rw[if_neg (by decide)],fun h=>by cases h⟩
   rw[if_neg c1] at hc ⊢
   by_cases c2:(up d (dC p)).1.getLast? = some b
   ·rw[if_neg (fun h=>h (e2.2 c2))] at hc
    rw[if_pos c2]
    rw[e1] at hc
    have hm:=hS a (by simp)
    by_cases c3:kH S a=true
    ·rw[if_pos (hm.1 (q9.1 c3))] at hc
     rw[if_pos c3,hc];exact ⟨by rw[if_neg (by decide)],fun h=>by cases h⟩
    ·rw[if_neg (fun h=>c3 (q9.2 (hm.2 h)))] at hc
     rw[if_neg c3,hc,if_pos rfl]
     obtain ⟨r1,r2⟩:=inst_eq v (k:=k) (b:=b) (l:=l) (S:=a::S) n2 fun id hid=>by
      rw[←hS id (List.mem_cons_of_mem _ hid)]
      exact ⟨fun h=>(List.mem_cons.1 h).resolve_left fun e=>n1 id hid e.symm,fun h=>List.mem_cons_of_mem _ h⟩
     refine ⟨r1,fun h id=>?_⟩
     rw[r2 h id]
     simp only[List.mem_cons]
     exact ⟨fun h=>h.elim (fun h=>h.elim (fun h=>.inr (.inl h)) .inl) fun h=>.inr (.inr h),fun h=>h.elim (fun h=>.inl (.inr h)) fun h=>h.elim (fun h=>.inl (.inl h)) .inr⟩
   ·rw[if_pos (fun h=>c2 (e2.1 h))] at hc
    rw[if_neg c2,hc];exact ⟨by rw[if_neg (by decide)],fun h=>by cases h⟩
theorem LM {l:List aK} {n:Nat}:∀ {f:Nat} {o:List Int} {t:List Bool},(nP l n f o t).2=0∨(nP l n f o t).2=20
 | 0,o,t=>.inl rfl
 | f+1,o,t=>by
  rw[nP]
  cases (List.range n).find? (nC l t) with
  | none=>exact .inr rfl
  | some v=>exact LM (f:=f)
theorem KB {α:Type} {f:α→Int}:∀ {l:List α},(∀ a∈l,f a=0)→bA f l=0
 | [],_=>rfl
 | a::l,h=>by rw[bA,if_pos (h a (by simp))];exact KB fun b hb=>h b (by simp[hb])
theorem AP2 {d:aH} {k id:ByteArray} {i j:Nat} (hi:i<d.2.2.2.2.1.length) (hj:j<d.2.2.2.2.1.length) (hk:d.2.2.2.2.1[i].1=k) (h:d.2.2.2.2.1[j].1=id) (hne:¬ id=k):j≠i:=by
 intro e;subst e;exact hne (h.symm.trans hk)
theorem AN2 {α:Type} {l:List (ByteArray×α)} {n:Nat} (h:n<(ids l).length):(ids l)[n]=(l[n]'(by unfold ids at h;rw[List.length_map] at h;exact h)).1:=by simp only[ids,List.getElem_map]
theorem AN3 {α:Type} {l:List (ByteArray×α)} (hn:(ids l).Nodup) {i j:Nat} (hi:i<l.length) (hj:j<l.length) (h:l[i].1=l[j].1):i=j:=by
 have li:∀ {m:Nat},m<l.length→m<(ids l).length:=fun h=>by unfold ids;rw[List.length_map];exact h
 have h2:(ids l)[i]'(li hi)=(ids l)[j]'(li hj):=by simp only[ids,List.getElem_map];exact h
 have hp:=List.pairwise_iff_getElem.1 hn
 rcases Nat.lt_trichotomy i j with h3|h3|h3
 ·exact absurd h2 (hp i j (li hi) (li hj) h3)
 ·exact h3
 ·exact absurd h2.symm (hp j i (li hj) (li hi) h3)
noncomputable def DG:Env:=Env.of [(79,.pure cN),(86,.pure bT),(77,.pure fP),(87,.pure qJ),(14,.pure cJ),(76,.pure fL),(88,.new mQ)]
def NS:FuncId→Hint:=fun f=>match f == 35 with|true=>⟨fun r=>match r == 4 with|true=>.inv [.own 4 2 (.pr (.int .i64) (.int .i64)),.val 5 false (.int .i64)]|false=>match r == 19 with|true=>.inv [.own 4 2 (.pr (.int .i64) (.int .i64)),.val 8 false (.int .i64)]|false=>match r == 26 with|true=>.inv [.own 4 2 (.pr (.int .i64) (.int .i64)),.val 9 false (.int .i64)]|false=>.none,fun _ _=>none,fun _=>none⟩|false=>aU
theorem UA:aG Tryz.prog DG:=aG.cons (x:=.pure cN) wI (aG.cons (x:=.pure bT) KE (aG.cons (x:=.pure fP) WQ (aG.cons (x:=.pure qJ) AG2 (aG.cons (x:=.pure cJ) BA (aG.cons (x:=.pure fL) KF (aG.cons (x:=.new mQ) AB8 (aG.nil _)))))))
def D0 (a0:aH) (R:T→Prop):Prop :=
 aI [(true,Sy.str.li.pr (Sy.str.li.pr (Sy.str.li.pr Sy.str.li)))]
 (fL [aB true aE a0])
 fun (y0:List ByteArray×List ByteArray×List ByteArray×List ByteArray) =>
 a8 (List aK×Int×PUnit)
 (fun (X1:List aK×Int×PUnit→Prop) (s2:List aK×Int×PUnit) =>
 aC (decide (s2.2.1<(↑(List.map aX.enc a0.2.2.2.2.1).length:Int)))
 (aQ aX (List.map aX.enc a0.2.2.2.2.1) s2.2.1
 fun (y3:bZ) =>
 aI [(false,Sy.bool)] (cN [T.v (.string y3.1)]) fun (y4:Bool) =>
 aC (!y4) (R (T.v (.int .i64 6)))
 (aI [(false,Sy.bool)]
 (bT [aB true aE a0,T.v (.string y3.2.1)])
 fun (y5:Bool) =>
 aC (!y5) (R (T.v (.int .i64 8)))
 (aC (decide (y3.2.2.2.1<1)) (R (T.v (.int .i64 9)))
 (aC (decide (10000<y3.2.2.2.1)) (R (T.v (.int .i64 9)))
 (aI [(false,Sy.bool)]
 (fP [T.sl false (List.map Sy.str.enc y3.2.2.1)]) fun (y6:Bool) =>
 aC (!y6) (R (T.v (.int .i64 11)))
 (aI [(false,Sy.bool)]
 (fP [T.sl false (List.map Sy.str.enc y3.2.2.2.2)])
 fun (y7:Bool) =>
 aC (!y7) (R (T.v (.int .i64 11)))
 (aI [(false,Sy.int IntKind.i64)]
 (qJ
 [aB true aE a0,
 T.v (.int .i64 s2.2.1)])
 fun (y8:Int) =>
 aC (!decide (y8=0)) (R (T.v (.int .i64 y8)))
 (bH aA (List.map aA.enc s2.1)
 fun (y9:List aK) =>
 a8 (List aK×Int×PUnit)
 (fun (X10:List aK×Int×PUnit→Prop)
 (s11:List aK×Int×PUnit) =>
 aC
 (decide
 (s11.2.1 <
 (↑(List.map Sy.str.enc y3.2.2.2.2).length:Int)))
 (aQ Sy.str (List.map Sy.str.enc y3.2.2.2.2)
 s11.2.1 fun (y12:ByteArray) =>
 aC (decide (y12=y3.1))
 (R (T.v (.int .i64 2)))
 (aQ Sy.str (List.map Sy.str.enc y3.2.2.2.2)
 s11.2.1 fun (y13:ByteArray) =>
 aI [(false,Sy.bool)]
 (cJ
 [T.sl false (List.map Sy.str.enc y0.2.2.2),
 T.v (.string y13)])
 fun (y14:Bool) =>
 aC (!y14) (R (T.v (.int .i64 8)))
 (bH aA (List.map aA.enc s11.1)
 fun (y15:List aK) =>
 a8 (List aK×Int×PUnit)
 (fun (X16:List aK×Int×PUnit→Prop)
 (s17:List aK×Int×PUnit) =>
 aC
 (decide
 (s17.2.1 <
 (↑(List.map Sy.str.enc y0.2.2.2).length :
 Int)))
 (aQ Sy.str
 (List.map Sy.str.enc y0.2.2.2) s17.2.1
 fun (y18:ByteArray) =>
 aQ Sy.str
 (List.map Sy.str.enc y3.2.2.2.2)
 s11.2.1 fun (y19:ByteArray) =>
 aC (decide (y18=y19))
 (cL
 (decide
 (((List.map aA.enc s17.1).length +
 1) *
 16 ≤
 140737488355328) &&
 decide
 ((List.map aA.enc s17.1).length +
 1 ≤
 140737488355328))
 (bH aA
 (List.map aA.enc s17.1 ++
 [[T.v
 (Value.int IntKind.i64 s17.2.1),
 T.v
 (Value.int IntKind.i64
 s2.2.1)]])
 fun (y20:List aK) =>
 X16
 (y20,IntKind.i64.wrap (s17.2.1+1),
 ())))
 (bH aA
 (List.map aA.enc s17.1)
 fun (y21:List aK) =>
 X16
 (y21,IntKind.i64.wrap (s17.2.1+1),())))
 (bH aA (List.map aA.enc s17.1)
 fun (y22:List aK) =>
 X10 (y22,IntKind.i64.wrap (s11.2.1+1),())))
 (y15,0,()))))
 (bH aA (List.map aA.enc s11.1)
 fun (y23:List aK) =>
 X1 (y23,IntKind.i64.wrap (s2.2.1+1),())))
 (y9,0,())))))))))
 (aI [(false,(Sy.int IntKind.i64).li),(false,Sy.int IntKind.i64)]
 (mQ
 [T.v
 (Value.int IntKind.i64 (↑(List.map aX.enc a0.2.2.2.2.1).length:Int)),
 T.sl false (List.map aA.enc s2.1)])
 fun (y24:List Int×Int)=>R (T.v (.int .i64 y24.2))))
 ([],0,())
theorem QR ( a0 R):bK aV Tryz.prog DG NS 8 35 [aB true aE a0] R=D0 a0 R:=by kernel_rfl
abbrev w9:Sh:=[(true,aE)]
def nY (d:aH):Option T:=match okV d with
 | true=>some (T.v (Value.int .i64 (kL d)))
 | false=>none
noncomputable def mR:List T→Option (T):=gS w9 nY
theorem R8 {a0}:mR [aB true aE a0]=nY (a0):=a7 (s:=w9) rfl (a0) rfl
theorem ADJ (h:∀ a0 r,nY (a0)=some r→cD w9 (a0)→D0 a0 (fun y=>y=r)):aJ Tryz.prog 35 mR :=
 aR (E:=DG) (Hs:=NS) UA aZ a6 (aN rfl) 8 ⟨_,_,Tryz.func35,rfl⟩ rfl fun x r h1 h2=>by
  let a0:=x
  rw[show Sh.bO w9 (a0)=[aB true aE a0] from rfl,QR]
  exact h a0 r h1 h2
theorem ACS {l:List ByteArray} {x:ByteArray} {K:Bool→Prop} (h:K (kH l x)):aI [(false,Sy.bool)] (cJ [T.sl false (List.map Sy.str.enc l),T.v (.string x)]) K:=aF (s:=AV) (y:=kH l x) (rV ..) h
theorem JI {l:List ByteArray} {K:Bool→Prop} (hl:l.length≤1000) (h:K (AS l)):aI [(false,Sy.bool)] (fP [T.sl false (List.map Sy.str.enc l)]) K:=aF (s:=AV) (y:=AS l) ((nE ..).trans (nM _ (by omega))) h
theorem dkp {l:List aK} {rows:List (List T)} {K:List aK→Prop} (e:rows=List.map aA.enc l) (h:K l):bH aA rows K:=by
 subst e;rw[eV (r:=aA) rfl];exact h
theorem AB9:aJ Tryz.prog 35 mR:=ADJ fun d r h hb=>by
 unfold nY at h
 split at h
 case h_2=>cases h
 rename_i hv
 cases h
 have v:=AFF hv
 have u:=v.u
 have hu:okU d=true:=by simp only[okV,Bool.and_eq_true] at hv;exact hv.1
 have hlong:=v.long
 have hnd:=wE v.ATW
 clear hb hv
 have is:∀ {n:Int},kL d=n→T.v (.int .i64 n)=T.v (.int .i64 (kL d)):=fun h=>by rw[h]
 unfold D0
 refine aF (s:=q4) (BG hu) ?_
 refine aS d.2.2.2.2.1.length (fun k s=>s.2.1=(k:Int)∧s.1.length≤k*1000∧(∀ e∈s.1,uX d.2.2.2.2.1.length e=0)∧∃ S,(∀ id,id∈S↔((d.2.2.2.2.1.take k).any fun q=>kH (fD q) id)=true)∧mE d (d.2.2.2.2.1.drop k) k s.1 S=mE d d.2.2.2.2.1 0 [] []) ⟨rfl,by simp,by simp,[],by simp,rfl⟩ ?_
 rintro X k ⟨E,i,w⟩ hk ⟨rfl,hEl,hE,S,hS,hr⟩ hX
 dsimp only at hEl hE hr ⊢
 refine cH (fun hlt=>?_) fun hge=>?_
 ·rw[List.length_map] at hlt
  have hlt:k<d.2.2.2.2.1.length:=by omega
  rw[aO (r:=aX) hlt]
  have hd:d.2.2.2.2.1.drop k=d.2.2.2.2.1[k]::d.2.2.2.2.1.drop (k+1):=List.drop_eq_getElem_cons hlt
  have ht:d.2.2.2.2.1.take (k+1)=d.2.2.2.2.1.take k++[d.2.2.2.2.1[k]]:=List.take_succ_eq_append_getElem hlt
  have hkl:=u.kl _ (List.getElem_mem hlt)
  have hki:=u.kI _ (List.getElem_mem hlt)
  have hget:d.2.2.2.2.1[k]? = some d.2.2.2.2.1[k]:=List.getElem?_eq_getElem hlt
  generalize hy:d.2.2.2.2.1[k]=y at hd ht hkl hki hget
  rw[hd,mE] at hr
  have bad:∀ {n:Int},n≠0→(mE d d.2.2.2.2.1 0 [] []).1=n→T.v (.int .i64 n)=T.v (.int .i64 (kL d)):=fun hn h=>is (by unfold kL;rw[if_neg (by rw[h];exact hn),h])
  have badH:∀ {n:Int},n≠0→vB d y=n→T.v (.int .i64 n)=T.v (.int .i64 (kL d)):=fun hn h=>bad hn (by rw[←hr,if_pos (by rw[h];exact hn),h])
  refine lJ hki ?_
  refine dJ (fun h=>badH (by decide) (by unfold vB;rw[if_pos h])) fun i1=>?_
  have n1:¬ iD y.1=false:=by rw[show iD y.1=true from i1];exact Bool.noConfusion
  refine KZ ?_
  refine dJ (fun h=>badH (by decide) (by unfold vB;rw[if_neg n1,if_pos h])) fun i2=>?_
  have n2:¬ BN d y.2.1=false:=by rw[show BN d y.2.1=true from i2];exact Bool.noConfusion
  refine cH (fun h=>badH (by decide) (by unfold vB;rw[if_neg n1,if_neg n2,if_pos (.inl h)])) fun h1=>?_
  refine cH (fun h=>badH (by decide) (by unfold vB;rw[if_neg n1,if_neg n2,if_pos (.inr h)])) fun h2=>?_
  have n3:¬ (SL y<1∨10000<SL y):=fun h=>h.elim h1 h2
  refine JI hkl.1 ?_
  refine dJ (fun h=>badH (by decide) (by unfold vB;rw[if_neg n1,if_neg n2,if_neg n3,if_pos (.inl h)])) fun a1=>?_
  refine JI hkl.2 ?_
  refine dJ (fun h=>badH (by decide) (by unfold vB;rw[if_neg n1,if_neg n2,if_neg n3,if_pos (.inr h)])) fun a2=>?_
  have h0:vB d y=0:=by
   unfold vB;rw[if_neg n1,if_neg n2,if_neg n3,if_neg]
   rw[show AS (fD y)=true from a1,show AS (dQ y)=true from a2];decide
  clear badH n1 n2 n3 i1 i2 h1 h2
  rw[if_neg (fun h=>h h0)] at hr
  obtain ⟨q1,q2⟩:=inst_eq v (k:=k) (b:=y.2.1) (l:=fD y) (S:=S) (wE a1) fun id _=>hS id
  refine aF (s:=[(false,.int .i64)]) (y:=FW d k y) ((XA ..).trans ?_) ?_
  ·unfold rD
   dsimp only
   rw[decide_eq_true (show (0:Int)≤(k:Int) by omega),Int.toNat_natCast,hget]
   exact iH _ hu
  refine mV (fun h=>bad h (by rw[←hr,if_pos (by rw[q1];exact h),q1];rfl)) fun hc=>?_
  have hc:(instE d y.2.1 (fD y) S).1=0:=q1.trans hc
  rw[if_neg (fun h=>h hc)] at hr
  refine dkp (l:=E) rfl ?_
  refine aS (dQ y).length (fun j s=>s.2.1=(j:Int)∧s.1.length≤k*1000+j∧(∀ e∈s.1,uX d.2.2.2.2.1.length e=0)∧MQ d y.1 k ((dQ y).drop j) s.1=MQ d y.1 k (dQ y) E) ⟨rfl,by simpa using hEl,hE,rfl⟩ ?_
  rintro Y j ⟨F,i,w⟩ hj ⟨rfl,hFl,hF,ha⟩ hY
  dsimp only at hFl hF ha ⊢
  refine cH (fun hlj=>?_) fun hgj=>?_
  ·rw[List.length_map] at hlj
   have hlj:j<(dQ y).length:=by
    have:(j:Int)<((dQ y).length:Int):=hlj
    omega
   rw[aO (r:=.str) (l:=dQ y) hlj]
   have hdj:(dQ y).drop j=(dQ y)[j]::(dQ y).drop (j+1):=List.drop_eq_getElem_cons hlj
   rw[hdj,MQ] at ha
   generalize hid:(dQ y)[j]=id at ha
   have badA:∀ {n:Int},n≠0→(MQ d y.1 k (dQ y) E).1=n→T.v (.int .i64 n)=T.v (.int .i64 (kL d)):=fun hn h=>bad hn (by rw[←hr,if_pos (by rw[h];exact hn),h])
   refine cH (fun h=>badA (by decide) (by rw[←ha,if_pos h])) fun hne=>?_
   rw[if_neg hne] at ha
   rw[aO (r:=.str) (l:=dQ y) hlj,hid]
   refine ACS ?_
   rcases AKS id d.2.2.2.2.1 with ⟨g1,g2⟩|⟨m,hm,g1,g2⟩
   ·rw[g1] at ha
    have hno:kH (ids d.2.2.2.2.1) id=false:=by
     rw[Bool.eq_false_iff]
     intro h
     obtain ⟨q,hq,e⟩:=List.mem_map.1 (q9.1 h)
     have:=List.find?_eq_none.1 g2 q hq
     simp[e] at this
    exact dJ (fun _=>badA (by decide) (by rw[←ha])) fun h=>absurd (hno.symm.trans h) Bool.noConfusion
   ·rw[g1] at ha
    dsimp only at ha
    have hm1:d.2.2.2.2.1[m].1=id:=(j2 g2).2
    have hyes:kH (ids d.2.2.2.2.1) id=true:=q9.2 (hm1 ▸ List.mem_map.2 ⟨_,List.getElem_mem hm,rfl⟩)
    refine dJ (fun h=>absurd (hyes.symm.trans h) Bool.noConfusion) fun _=>?_
    refine dkp (l:=F) rfl ?_
    have hli:(ids d.2.2.2.2.1).length=d.2.2.2.2.1.length:=by unfold ids;rw[List.length_map]
    refine aS (ids d.2.2.2.2.1).length (fun n s=>s=(F++(if m<n then [((m:Int),(k:Int))] else []),(n:Int),())) (by simp) ?_
    rintro Z n _ hn rfl hZ
    dsimp only
    have hFn:(F++(if m<n then [((m:Int),(k:Int))] else [])).length≤100000:=by
     have:(if m<n then [((m:Int),(k:Int))] else []).length≤1:=by split<;>simp
     rw[List.length_append];omega
    refine cH (fun hln=>?_) fun hgn=>?_
    ·rw[List.length_map] at hln
     have hln:n<(ids d.2.2.2.2.1).length:=by
      have:(n:Int)<((ids d.2.2.2.2.1).length:Int):=hln
      omega
     have hwn:IntKind.i64.wrap ((n:Int)+1)=((n+1:Nat):Int):=aP _ (by omega) (by omega)
     rw[aO (r:=.str) (l:=(ACW d).2.2.2) hln,aO (r:=.str) (l:=dQ y) hlj,hid]
     have hnn:(ids d.2.2.2.2.1)[n]=d.2.2.2.2.1[n].1:=AN2 hln
     refine cH (fun he=>?_) fun he=>?_
     ·have hnm:n=m:=AN3 hnd (by omega) hm (hnn.symm.trans (he.trans hm1.symm))
      subst hnm
      refine ⟨by simp only[List.length_map,Bool.and_eq_true,decide_eq_true_eq];omega,?_⟩
      refine dkp (l:=F++[((n:Int),(k:Int))]) ?_ (hZ _ hln ?_)
      ·rw[if_neg (by omega),List.append_nil,List.map_append];rfl
      ·rw[if_pos (by omega),hwn]
     ·have hnm:n≠m:=fun e=>he (by subst e;exact hnn.trans hm1)
      refine dkp rfl (hZ _ hln ?_)
      rw[hwn]
      by_cases hc:m<n
      ·rw[if_pos hc,if_pos (by omega)]
      ·rw[if_neg hc,if_neg (by omega)]
    ·rw[List.length_map] at hgn
     have hgn:n=d.2.2.2.2.1.length:=by
      have:¬ (n:Int)<((ids d.2.2.2.2.1).length:Int):=hgn
      omega
     refine dkp rfl (hY _ hlj ⟨?_,?_,fun e he=>?_,?_⟩)
     ·show IntKind.i64.wrap ((j:Int)+1)=_
      rw[aP]<;>omega
     ·show (F++(if m<n then [((m:Int),(k:Int))] else [])).length≤_
      rw[if_pos (by omega),List.length_append];simp only[List.length_cons,List.length_nil];omega
     ·have he:e∈F++(if m<n then [((m:Int),(k:Int))] else []):=he
      rw[if_pos (by omega)] at he
      rcases List.mem_append.1 he with he|he
      ·exact hF e he
      ·rw[List.mem_singleton.1 he]
       have hmk:m≠k:=AP2 (i:=k) (j:=m) hlt hm (by rw[hy]) hm1 hne
       unfold uX
       rw[if_neg (by dsimp only;omega),if_neg (by dsimp only;omega)]
     ·show MQ d y.1 k ((dQ y).drop (j+1)) (F++(if m<n then [((m:Int),(k:Int))] else []))=_
      rw[if_pos (by omega)];exact ha
  ·rw[List.length_map] at hgj
   have hgj:j=(dQ y).length:=by
    have:¬ (j:Int)<((dQ y).length:Int):=hgj
    omega
   subst hgj
   rw[List.drop_length,MQ] at ha
   rw[←ha,if_neg (fun h=>h rfl)] at hr
   refine dkp rfl (hX _ hlt ⟨?_,?_,hF,(instE d y.2.1 (fD y) S).2,fun id=>?_,?_⟩)
   ·show IntKind.i64.wrap ((k:Int)+1)=_
    rw[aP]<;>omega
   ·show F.length≤_
    omega
   ·rw[q2 hc id,hS id,ht,List.any_append]
    simp only[List.any_cons,List.any_nil,Bool.or_false,Bool.or_eq_true,q9]
   ·rw[←hr];rfl
 ·rw[List.length_map] at hge
  have hkl:k=d.2.2.2.2.1.length:=by omega
  subst hkl
  rw[List.drop_length,mE] at hr
  have h0:bA (uX d.2.2.2.2.1.length) E=0:=KB hE
  have hEb:E.length≤140737488355328:=by omega
  rw[List.length_map]
  refine aF (s:=kN) (y:=gI d.2.2.2.2.1.length E) ((R6 ..).trans (nM _ hEb)) (is ?_)
  unfold kL
  rw[←hr,if_pos rfl]
  rcases (show (gI d.2.2.2.2.1.length E).2=0∨(gI d.2.2.2.2.1.length E).2=20 by
   rw[LI hEb (by omega) (by omega) h0];exact LM) with h|h
  ·rw[if_pos h,h]
  ·rw[if_neg (by rw[h];decide),h]
end Go.Pv
namespace Go.Pv
open Go Go.Proofs
noncomputable def PT:Env:=Env.of [(30,.pure qL),(31,.pure qK),(32,.pure mP),(33,.pure j8),(34,.pure mU),(35,.pure mR),(36,.pure mO)]
def AEA:FuncId→Hint:=fun _=>aU
theorem AFU:aG Tryz.prog PT:=aG.cons (x:=.pure qL) AG7 (aG.cons (x:=.pure qK) AG3 (aG.cons (x:=.pure mP) AB7 (aG.cons (x:=.pure j8) WV (aG.cons (x:=.pure mU) ACC (aG.cons (x:=.pure mR) AB9 (aG.cons (x:=.pure mO) AB6 (aG.nil _)))))))
def QD (a0:aH) (a1:aM) (R:T→Prop):Prop :=
 aI [(false,Sy.int IntKind.i64)] (qL [aB true aL a1])
 fun (y0:Int) =>
 aC (!decide (y0=0)) (R (T.v (.int .i64 y0)))
 (aI [(false,Sy.int IntKind.i64)] (qK [aB true aE a0])
 fun (y1:Int) =>
 aC (!decide (y1=0)) (R (T.v (.int .i64 y1)))
 (aI [(false,Sy.int IntKind.i64)] (mP [aB true aE a0])
 fun (y2:Int) =>
 aC (!decide (y2=0)) (R (T.v (.int .i64 y2)))
 (aI [(false,Sy.int IntKind.i64)]
 (j8 [aB true aE a0,aB true aL a1])
 fun (y3:Int) =>
 aC (!decide (y3=0)) (R (T.v (.int .i64 y3)))
 (aI [(false,Sy.int IntKind.i64)] (mU [aB true aE a0])
 fun (y4:Int) =>
 aC (!decide (y4=0)) (R (T.v (.int .i64 y4)))
 (aI [(false,Sy.int IntKind.i64)]
 (mR [aB true aE a0]) fun (y5:Int) =>
 aC (!decide (y5=0)) (R (T.v (.int .i64 y5)))
 (aI [(false,Sy.int IntKind.i64)]
 (mO [aB true aE a0]) fun (y6:Int) =>
 R (T.v (.int .i64 y6))))))))
theorem AAY ( a0 a1 R):bK aV Tryz.prog PT AEA 8 10 [aB true aE a0,aB true aL a1] R=QD a0 a1 R:=by kernel_rfl
abbrev G7:Sh:=[(true,aE),(true,aL)]
def LW (x:aH×aM):Option T:=lZ x.1 (T.v (Value.int .i64 (zF x.1 x.2)))
noncomputable def kU:List T→Option (T):=gS G7 LW
theorem ACL {a0 a1}:kU [aB true aE a0,aB true aL a1]=LW (a0,a1):=a7 (s:=G7) rfl (a0,a1) rfl
theorem ALR (h:∀ a0 a1 r,LW (a0,a1)=some r→cD G7 (a0,a1)→QD a0 a1 (fun y=>y=r)):aJ Tryz.prog 10 kU :=
 aR (E:=PT) (Hs:=AEA) AFU aZ a6 (aN rfl) 8 ⟨_,_,Tryz.func10,rfl⟩ rfl fun x r h1 h2=>by
  obtain ⟨a0,a1⟩:=x
  rw[show Sh.bO G7 (a0,a1)=[aB true aE a0,aB true aL a1] from rfl,AAY]
  exact h a0 a1 r h1 h2
theorem WS:aJ Tryz.prog 10 kU:=ALR fun d m r h hb=>by
 obtain ⟨hu,rfl⟩:=iG h
 replace hu:okU d=true:=hu
 clear h hb
 have is:∀ {n:Int},zF d m=n→T.v (.int .i64 n)=T.v (.int .i64 (zF d m)):=fun h=>by rw[h]
 unfold QD
 refine aF (s:=[(false,.int .i64)]) (y:=uI m) (XG ..) ?_
 refine mV (fun h=>is (by unfold zF;rw[if_pos h])) fun h0=>?_
 have hm:=AOC h0
 have n0:¬ ¬ uI m=0:=fun h=>h h0
 refine aF (s:=[(false,.int .i64)]) (y:=if isName d.1=false then 6 else jC d) ((XB ..).trans (iH _ hu)) ?_
 by_cases hn:isName d.1=false
 ·rw[if_pos hn]
  exact mV (fun h=>is (by unfold zF;rw[if_neg n0,if_pos hn])) fun h=>by cases h
 rw[if_neg hn]
 refine mV (fun h=>is (by unfold zF;rw[if_neg n0,if_neg hn,if_pos h])) fun h1=>?_
 have n2:¬ ¬ jC d=0:=fun h=>h h1
 refine aF (s:=[(false,.int .i64)]) (y:=gG d) ((R5 ..).trans (iH _ hu)) ?_
 refine mV (fun h=>is (by unfold zF;rw[if_neg n0,if_neg hn,if_neg n2,if_pos h])) fun h2=>?_
 have n3:¬ ¬ gG d=0:=fun h=>h h2
 refine aF (s:=[(false,.int .i64)]) (y:=iV d m) ((MX ..).trans (by unfold lR;dsimp only;rw[hm];exact iH _ hu)) ?_
 refine mV (fun h=>is (by unfold zF;rw[if_neg n0,if_neg hn,if_neg n2,if_neg n3,if_pos h])) fun h3=>?_
 have n4:¬ ¬ iV d m=0:=fun h=>h h3
 have hv:okV d=true:=by
  simp only[okV,Bool.and_eq_true,decide_eq_true_eq,List.all_eq_true]
  refine ⟨hu,h1,h2,fun p hp=>?_⟩
  have h0:bA (eE d m) d.2.2.1=0:=by
   unfold iV at h3
   split at h3
   ·assumption
   ·exact h3
  have h4:=lG h0 p hp
  unfold eE at h4
  by_cases hp0:eP p m=0
  ·rw[if_pos hp0] at h4
   cases hc:bD d (dC p) with
   | some n=>rfl
   | none=>rw[hc] at h4;cases h4
  ·rw[if_neg hp0] at h4;exact absurd h4 hp0
 refine aF (s:=[(false,.int .i64)]) (y:=bA (vQ d) d.2.2.2.1) ((SB ..).trans (iH _ hu)) ?_
 refine mV (fun h=>is (by unfold zF;rw[if_neg n0,if_neg hn,if_neg n2,if_neg n3,if_neg n4,if_pos h])) fun h4=>?_
 have n5:¬ ¬ bA (vQ d) d.2.2.2.1=0:=fun h=>h h4
 refine aF (s:=[(false,.int .i64)]) (y:=kL d) ((R8 ..).trans (by unfold nY;rw[hv];rfl)) ?_
 refine mV (fun h=>is (by unfold zF;rw[if_neg n0,if_neg hn,if_neg n2,if_neg n3,if_neg n4,if_neg n5,if_pos h])) fun h5=>?_
 have n6:¬ ¬ kL d=0:=fun h=>h h5
 refine aF (s:=[(false,.int .i64)]) (y:=bA (vI d) d.2.2.2.2.2) ((R4 ..).trans (iH _ hu)) ?_
 exact is (by unfold zF;rw[if_neg n0,if_neg hn,if_neg n2,if_neg n3,if_neg n4,if_neg n5,if_neg n6])
theorem JR {d:aH} {m:aM} {K:Int→Prop} (hu:okU d=true) (h:K (zF d m)):aI [(false,Sy.int IntKind.i64)] (kU [aB true aE d,aB true aL m]) K:=aF (s:=[(false,.int .i64)]) ((ACL ..).trans (iH _ hu)) h
end Go.Pv
namespace Go.Pv
open Go Go.Proofs
theorem WN {d:aH} {n:Int} {K:Bool→Prop} (h:K (uZ d n)):aI [(false,Sy.bool)] (x9 [aB true aE d,T.v (.int .i64 n)]) K:=aF (s:=AV) (AKR ..) h
theorem j1 {K:Bool→Prop} (h:K true):aI [(false,Sy.bool)] (dO []) K:=by rw[KO];exact h
theorem AKF {d:aH} {a b:Int} (hab:a≤b) (h:uZ d a=true):uZ d b=true:=by
 simp only[uZ,Bool.and_eq_true,List.all_eq_true,decide_eq_true_eq] at h ⊢
 obtain ⟨⟨⟨⟨⟨h1,h2⟩,h3⟩,h4⟩,h5⟩,h6⟩:=h
 exact ⟨⟨⟨⟨⟨by omega,by omega⟩,by omega⟩,by omega⟩,by omega⟩,fun k hk=>by have:=h6 k hk;omega⟩
theorem AOR {d:aH} (h:uO (2 ^ 40) aE d):okD d=true:=by
 refine List.all_eq_true.2 fun p hp=>?_
 obtain ⟨_,_,⟨_,_,h3⟩,_⟩:=h
 have h4:=h3 p hp
 obtain ⟨_,_,_,_,_,_,⟨⟨h5,h6,_⟩,h7,h8,h9⟩,_⟩:=h4
 unfold SU SV vJ
 simp only[Bool.and_eq_true,decide_eq_true_eq,List.all_eq_true]
 have up:∀ {n:Nat},n≤2 ^ 40→n≤140737488355328:=fun h=>by omega
 refine ⟨⟨⟨?_,?_⟩,?_,?_⟩,fun q hq=>?_⟩
 ·exact up h5
 ·exact up h6
 ·exact up h7
 ·exact up h8
 ·obtain ⟨g1,g2,_⟩:=h9 q hq
  exact ⟨up g1,up g2⟩
theorem AOT {d:aH} (h:uO (2 ^ 40) aE d):okK d=true:=by
 refine List.all_eq_true.2 fun p hp=>?_
 obtain ⟨_,_,_,_,⟨_,_,h3⟩,_⟩:=h
 obtain ⟨_,_,⟨h5,h6,_⟩,_,⟨h7,h8,_⟩⟩:=h3 p hp
 unfold SS vJ
 have up:∀ {n:Nat},n≤2 ^ 40→n≤140737488355328:=fun h=>by omega
 simp only[Bool.and_eq_true,decide_eq_true_eq]
 exact ⟨⟨up h5,up h6⟩,up h7,up h8⟩
theorem AOS {d:aH} (h:uO (2 ^ 40) aE d):okI d=true:=by
 obtain ⟨_,⟨_,_,hn⟩,⟨_,_,hp⟩,⟨_,_,hs⟩,⟨_,_,hk⟩,_⟩:=h
 simp only[okI,AU,Bool.and_eq_true,decide_eq_true_eq,List.all_eq_true]
 refine ⟨⟨⟨fun n hm=>?_,fun p hm=>?_⟩,fun s hm=>?_⟩,fun k hm=>?_⟩
 ·obtain ⟨a,_⟩:=hn n hm
  exact a
 ·obtain ⟨a,_,_,b,_⟩:=hp p hm
  exact ⟨a,b⟩
 ·obtain ⟨a,b,c,_⟩:=hs s hm
  exact ⟨a,b,c⟩
 ·obtain ⟨a,_⟩:=hk k hm
  exact a
theorem AFE {d:aH} {n:Int} (hn:n≤1000) (hf:uZ d n=true) (h:uO (2 ^ 40) aE d):okU d=true:=by
 unfold okU;rw[AKF hn hf,AOR h,AOT h,AOS h];rfl
end Go.Pv
namespace Go.Pv
open Go Go.Proofs
theorem AGK {d:aH} {m:aM} (h:zF d m=0):(uI m=0∧isName d.1=true∧jC d=0)∧gG d=0∧iV d m=0∧bA (vQ d) d.2.2.2.1=0∧kL d=0∧bA (vI d) d.2.2.2.2.2=0:=by
 unfold zF at h
 split at h
 ·exact absurd h ‹_›
 split at h
 ·cases h
 split at h
 ·exact absurd h ‹_›
 split at h
 ·exact absurd h ‹_›
 split at h
 ·exact absurd h ‹_›
 split at h
 ·exact absurd h ‹_›
 split at h
 ·exact absurd h ‹_›
 rename_i h1 h2 h3 h4 h5 h6 h7
 exact ⟨⟨Classical.byContradiction h1,by simpa using h2,Classical.byContradiction h3⟩,Classical.byContradiction h4,Classical.byContradiction h5,Classical.byContradiction h6,Classical.byContradiction h7,h⟩
theorem YO {d:aH} (h:gG d=0):bA (GD d) d.2.1=0∧YN d=false∧JT d=false:=by
 unfold gG at h
 split at h
 ·split at h
  ·cases h
  ·split at h
   ·cases h
   ·rename_i h1 h2 h3
    exact ⟨h1,by simpa using h2,by simpa using h3⟩
 ·rename_i h1;exact absurd h h1
theorem Y9 {d:aH} {m:aM} (h:iV d m=0):bA (eE d m) d.2.2.1=0:=by
 unfold iV at h
 split at h
 ·assumption
 ·exact h
theorem qH {α:Type}:∀ {l:List (ByteArray×α)},(ids l).Nodup→∀ {a:ByteArray×α},a∈l→l.find? (fun s=>decide (s.1=a.1))=some a
 | [],_,a,h=>by cases h
 | b::l,hn,a,h=>by
  obtain ⟨h1,h2⟩:=List.pairwise_cons.1 (show (b.1::ids l).Nodup from hn)
  rcases List.mem_cons.1 h with rfl|h
  ·simp
  ·have hne:b.1≠a.1:=h1 _ (List.mem_map.2 ⟨a,h,rfl⟩)
   rw[List.find?_cons_of_neg (by simpa using hne)]
   exact qH h2 h
theorem TR {d:aH}:∀ {n:Nat} {id:ByteArray} {c:List ByteArray},TQ d n id=some c→(∀ y∈c,∀ x,bD d y=some x→x.2.1=1→c.getLast? = some y)∧∃ y x,c.getLast? = some y∧bD d y=some x∧x.2.1=1
 | 0,_,_,h=>by cases h
 | n+1,id,c,h=>by
  unfold TQ at h
  cases hn:bD d id with
  | none=>rw[hn] at h;cases h
  | some x =>
   rw[hn] at h
   dsimp only at h
   by_cases hx:x.2.1=1
   ·rw[if_pos hx] at h;cases h
    refine ⟨fun y hy z hz hk=>?_,id,x,rfl,hn,hx⟩
    have:y=id:=by simpa using hy
    rw[this];rfl
   ·rw[if_neg hx] at h
    cases h1:TQ d n x.2.2 with
    | none=>rw[h1] at h;cases h
    | some c' =>
     rw[h1] at h;cases h
     obtain ⟨a,y0,x0,b1,b2,b3⟩:=TR h1
     have hne:=AMW h1
     have e:(id::c').getLast? = c'.getLast? := by
      cases c' with
      | nil=>exact absurd rfl hne
      | cons a l=>rfl
     refine ⟨fun y hy z hz hk=>?_,y0,x0,by rw[e];exact b1,b2,b3⟩
     rcases List.mem_cons.1 hy with rfl|hy
     ·rw[hn] at hz;cases hz;exact absurd hk hx
     ·rw[e];exact a y hy z hz hk
theorem ZW {d:aH}:∀ {n:Nat} {id:ByteArray} {c:List ByteArray},TQ d n id=some c→∀ (i:Nat) (h:i+1<c.length),∃ x,bD d c[i]=some x∧¬ x.2.1=1∧x.2.2=c[i+1]
 | 0,_,_,h=>by cases h
 | n+1,id,c,h=>by
  unfold TQ at h
  cases hn:bD d id with
  | none=>rw[hn] at h;cases h
  | some x =>
   rw[hn] at h
   dsimp only at h
   by_cases hx:x.2.1=1
   ·rw[if_pos hx] at h;cases h
    intro i hi;simp at hi
   ·rw[if_neg hx] at h
    cases h1:TQ d n x.2.2 with
    | none=>rw[h1] at h;cases h
    | some c' =>
     rw[h1] at h;cases h
     intro i hi
     cases i with
     | zero =>
      refine ⟨x,hn,hx,?_⟩
      cases n with
      | zero=>cases h1
      | succ n =>
       unfold TQ at h1
       cases hn':bD d x.2.2 with
       | none=>rw[hn'] at h1;cases h1
       | some x' =>
        rw[hn'] at h1
        dsimp only at h1
        by_cases hx':x'.2.1=1
        ·rw[if_pos hx'] at h1;cases h1;rfl
        ·rw[if_neg hx'] at h1
         cases h2:TQ d n x'.2.2 with
         | none=>rw[h2] at h1;cases h1
         | some c2=>rw[h2] at h1;cases h1;rfl
     | succ i=>exact ZW h1 i (by simpa using hi)
structure ABA (d:aH):Prop where
 v:VOk d
 n1:(ids d.2.1).Nodup
 n2:(ids d.2.2.1).Nodup
 up:∀ n∈d.2.1,(up d n.1).2=true∧(up d n.1).1.length≤8
 nd:∀ p∈d.2.2.1,∃ n∈d.2.1,n.1=dC p
theorem AS9 {d:aH} {m:aM} (hu:okU d=true) (h:zF d m=0):ABA d:=by
 obtain ⟨⟨_,_,c3⟩,c4,c5,_,_,_⟩:=AGK h
 obtain ⟨_,⟨a1,a2,_,_⟩,_⟩:=KJ c3
 obtain ⟨_,e2,e3⟩:=YO c4
 have hp:=oI (Y9 c5)
 have hs:∀ p∈d.2.2.1,(bD d (dC p)).isSome=true:=fun p hm=>by
  have h1:=hp p hm
  unfold eE at h1
  split at h1
  ·split at h1
   ·cases h1
   ·rename_i h2
    cases hn:bD d (dC p) with
    | none=>rw[hn] at h2;exact absurd rfl h2
    | some _=>rfl
  ·rename_i h2;exact absurd h1 h2
 have hv:okV d=true:=by
  unfold okV
  rw[hu,decide_eq_true c3,decide_eq_true c4,List.all_eq_true.2 hs];rfl
 refine ⟨AFF hv,wE a1,wE a2,fun n hn=>⟨?_,?_⟩,fun p hm=>?_⟩
 ·cases hc:(Go.Pv.up d n.1).2 with
  | true=>rfl
  | false =>
   exfalso
   unfold YN at e2
   rw[Bool.eq_false_iff] at e2
   exact e2 (List.any_eq_true.2 ⟨n,hn,by rw[hc];rfl⟩)
 ·refine Classical.byContradiction fun hc=>?_
  unfold JT at e3
  rw[Bool.eq_false_iff] at e3
  exact e3 (List.any_eq_true.2 ⟨n,hn,decide_eq_true (by omega)⟩)
 ·obtain ⟨n,hn⟩:=Option.isSome_iff_exists.1 (hs p hm)
  obtain ⟨m1,m2⟩:=j2 hn
  exact ⟨n,m1,m2⟩
theorem BK {l:List ByteArray} {x:ByteArray}:qP l x=true↔x∈l:=by
 unfold qP
 rw[List.any_eq_true]
 exact ⟨fun ⟨y,hy,he⟩=>by rw[←of_decide_eq_true he];exact hy,fun h=>⟨x,h,decide_eq_true rfl⟩⟩
theorem JL {d:aH} {b:ByteArray}:b∈dH d↔∃ n∈d.2.1,n.2.1=1∧n.1=b:=by
 unfold dH
 simp only[List.mem_map,List.mem_filter,decide_eq_true_eq]
 exact ⟨fun ⟨n,⟨h1,h2⟩,h3⟩=>⟨n,h1,h2,h3⟩,fun ⟨n,h1,h2,h3⟩=>⟨n,⟨h1,h2⟩,h3⟩⟩
theorem RB {d:aH} (h:(ids d.2.1).Nodup):(dH d).Nodup:=by
 unfold dH
 exact List.Pairwise.sublist (List.Sublist.map _ (List.filter_sublist ..)) h
theorem zV {d:aH} (k:ABA d) {p:bI} (hp:p∈d.2.2.1):∃ b,b∈dH d∧(∀ c∈dH d,inN d c p=true↔c=b)∧bQ d p.1=(b,true):=by
 have hu:=k.v.up p hp
 have hc:=ARJ hu
 obtain ⟨a1,y,x,a2,a3,a4⟩:=TR hc
 obtain ⟨m1,m2⟩:=j2 a3
 refine ⟨y,JL.2 ⟨x,m1,a4,m2⟩,fun c hcb=>⟨fun h=>?_,fun h=>?_⟩,?_⟩
 ·obtain ⟨n,n1,n2,n3⟩:=JL.1 hcb
  have hin:c∈(up d (dC p)).1:=BK.1 h
  have hf:bD d c=some n:=by rw[←n3];exact qH k.n1 n1
  have:=a1 c hin n hf n2
  rw[a2] at this
  exact (Option.some.inj this).symm
 ·subst h
  exact BK.2 (List.mem_of_getLast? a2)
 ·unfold bQ
  rw[k.v.none p hp,show partOf d p.1=some p from qH k.n2 hp]
  show o0 d (dC p)=_
  unfold o0
  rw[if_pos hu]
  unfold BQ
  rw[List.getLastD_eq_getLast?,a2];rfl
def xT {α:Type} (f:α→Nat):List α→Nat
 | []=>0
 | b::l=>f b+xT f l
theorem ZQ {α:Type} {f g:α→Nat}:∀ {l:List α},xT (fun b=>f b+g b) l=xT f l+xT g l
 | []=>rfl
 | b::l=>by
  have:=ZQ (f:=f) (g:=g) (l:=l)
  simp only[xT,this];omega
theorem FP {α:Type} {f:α→Nat}:∀ {l:List α},(∀ b∈l,f b=0)→xT f l=0
 | [],_=>rfl
 | b::l,h=>by rw[xT,h b List.mem_cons_self,FP fun c hc=>h c (List.mem_cons_of_mem _ hc)]
theorem ZR {α:Type} {q:α→Bool} {b0:α}:∀ {l:List α},l.Nodup→b0∈l→(∀ b∈l,q b=true↔b=b0)→xT (fun b=>if q b=true then 1 else 0) l=1
 | [],_,h,_=>by cases h
 | a::l,hn,hb,h=>by
  obtain ⟨h1,h2⟩:=List.pairwise_cons.1 hn
  rw[xT]
  rcases List.mem_cons.1 hb with rfl|hb
  ·rw[if_pos ((h b0 List.mem_cons_self).2 rfl),FP fun c hc=>?_]
   rw[if_neg]
   intro hq
   exact h1 c hc ((h c (List.mem_cons_of_mem _ hc)).1 hq).symm
  ·rw[if_neg,ZR h2 hb fun c hc=>h c (List.mem_cons_of_mem _ hc)]
   intro hq
   exact h1 b0 hb ((h a List.mem_cons_self).1 hq)
theorem GH {α β:Type} {B:List β} {f:β→α→Bool}:∀ {ps:List α},(∀ p∈ps,xT (fun b=>if f b p=true then 1 else 0) B=1)→xT (fun b=>(ps.filter (f b)).length) B=ps.length
 | [],_=>FP fun _ _=>rfl
 | p::ps,h=>by
  have e:(fun b=>((p::ps).filter (f b)).length)=fun b=>(if f b p=true then 1 else 0)+(ps.filter (f b)).length:=by
   funext b
   by_cases hb:f b p=true
   ·rw[List.filter_cons_of_pos hb,if_pos hb,List.length_cons];omega
   ·rw[List.filter_cons_of_neg hb,if_neg hb];omega
  rw[e,ZQ,h p List.mem_cons_self,GH fun q hq=>h q (List.mem_cons_of_mem _ hq),List.length_cons];omega
theorem ZA {d:aH} (k:ABA d):xT (fun b=>(fQ d b).length) (dH d)=d.2.2.1.length:=by
 have h:=GH (B:=dH d) (f:=inN d) (ps:=d.2.2.1) fun p hp=>by
  obtain ⟨b,h1,h2,_⟩:=zV k hp
  exact ZR (RB k.n1) h1 h2
 rw[←h]
 congr 1
 funext b
 unfold fQ
 rw[List.length_map]
theorem V6 {d:aH} (k:ABA d) {b id:ByteArray} (hb:b∈dH d) (h:id∈fQ d b):bQ d id=(b,true):=by
 unfold fQ at h
 simp only[List.mem_map,List.mem_filter] at h
 obtain ⟨p,⟨h1,h2⟩,rfl⟩:=h
 obtain ⟨c,_,h4,h5⟩:=zV k h1
 rw[h5,(h4 b hb).1 h2]
theorem XW {d:aH} (k:ABA d) {p:bI} (hp:p∈d.2.2.1):∃ b,bQ d p.1=(b,true)∧qP (dH d) b=true∧qP (fQ d b) p.1=true:=by
 obtain ⟨b,h1,h2,h3⟩:=zV k hp
 refine ⟨b,h3,BK.2 h1,BK.2 ?_⟩
 unfold fQ
 exact List.mem_map.2 ⟨p,List.mem_filter.2 ⟨hp,(h2 b h1).2 rfl⟩,rfl⟩
end Go.Pv
