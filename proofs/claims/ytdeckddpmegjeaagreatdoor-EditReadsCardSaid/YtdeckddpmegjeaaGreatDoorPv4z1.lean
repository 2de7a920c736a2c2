/-
  Facts on the program that every function's file asks for.
  The seam, the part, the section with an identifier.
  The part with an identifier, as the program finds it; how thick a seam is.
  Words that several files share.
  The bytes of numbers, texts and lists (plain).
  cbor.head at nil, as a function of data.
  What a reader sees of a head (plain).
  cbor's readers: the head that comes next.
  cbor's readers: integers.
  cbor's readers: counts, texts, lists.
  cbor's readers: texts, lists.
  Readers: one value after the other (plain).
  The program's readers of parts and edits.
  The program's reader of edits.
  cbor.Int, Text, List; the same of the reference.
  shipyardref05.Int, Text, List.
  The reference's reader: the head that comes next.
  The reference's reader: integers, texts, lists.
  The reference's readers of parts and edits.
  The way from the block down to a part.
  Packages; equality of lists, shapes, parts and packages.
  The examples of chapter 19, run by the kernel.
  The calls of edit.Apply in the examples of chapter 19, each run for itself. (The table is printed by tools/tab.py.)
  The examples of chapter 19, run by the kernel.
  EditReads: what the law comes to.
-/
import Derived.Test.YtdeckddpmegjeaaGreatDoorPv4ki
import Derived.Test.YtdeckddpmegjeaaGreatDoorPv4ty
import Derived.Test.YtdeckddpmegjeaaGreatDoorProg
import Derived.KernelRfl
import Derived.Laws.BytesArg
import Derived.Test.YtdeckddpmegjeaaGreatDoorPv4kv
import Derived.Test.YtdeckddpmegjeaaGreatDoorPv4cb
import Derived.Test.YtdeckddpmegjeaaGreatDoorPv4gs
import Derived.Test.YtdeckddpmegjeaaGreatDoorPv4kp
import Derived.Test.YtdeckddpmegjeaaGreatDoorPv4kj
set_option linter.defProp false
set_option linter.unusedSimpArgs false
set_option linter.unusedVariables false
namespace Go.Pv
open Go Go.Proofs
theorem bF:Tryz.prog.follows .mixedOrders=true:=by kernel_rfl
theorem bG:cA Tryz.prog=true:=by kernel_rfl
end Go.Pv
set_option maxRecDepth 100000
namespace Go.Pv
open Go Go.Proofs
end Go.Pv
namespace Go.Pv
open Go Go.Proofs
end Go.Pv
namespace Go.Pv
open Go Go.Proofs
abbrev AP:Sh:=[(false,.bool)]
theorem MN {p:Prop} {i:Decidable p} (h:p) {A B:Prop} (ha:A):aI (@decide p i) A B:=by rw[show @decide p i=true from decide_eq_true h];exact ha
theorem PW {p:Prop} {i:Decidable p} (h:¬ p) {A B:Prop} (hb:B):aI (@decide p i) A B:=by rw[show @decide p i=false from decide_eq_false h];exact hb
theorem eQ {p:Prop} {i:Decidable p} {A B:Prop} (h1:p→A) (h2:¬ p→B):aI (@decide p i) A B:=by
 by_cases h:p
 ·rw[decide_eq_true h];exact h1 h
 ·rw[decide_eq_false h];exact h2 h
theorem oC {p:Prop} {i:Decidable p} {A B:Prop} (h1:¬ p→A) (h2:p→B):aI (!(@decide p i)) A B:=by
 by_cases h:p
 ·rw[decide_eq_true h];exact h2 h
 ·rw[decide_eq_false h];exact h1 h
theorem S9 {c:Bool} {A B:Prop} (h1:c=true→A) (h2:c=false→B):aI c A B:=by cases c with
 | true=>exact h1 rfl
 | false=>exact h2 rfl
theorem V8 {c:Bool} {A B:Prop} (h1:c=false→A) (h2:c=true→B):aI (!c) A B:=by cases c with
 | true=>exact h2 rfl
 | false=>exact h1 rfl
end Go.Pv
namespace Go.Pv
open Go Go.Proofs
def p7:Nat→Nat→List Nat
 | 0,_=>[]
 | n+1,v=>p7 n (v / 256)++[v % 256]
theorem eR:∀ (n v:Nat),p7 (n+1) v=(v / 256 ^ n % 256)::p7 n v
 | 0,v=>by simp[p7]
 | n+1,v=>by
  show p7 (n+1) (v / 256)++[v % 256]=_
  rw[eR n (v / 256)]
  show _::(p7 n (v / 256)++[v % 256])=_::(p7 n (v / 256)++[v % 256])
  rw[Nat.div_div_eq_div_mul,←Nat.pow_succ']
def dJ (k v:Nat):List Nat :=
 if v<24 then [32*k+v] else if v<256 then (32*k+24)::p7 1 v else if v<65536 then (32*k+25)::p7 2 v else if v<4294967296 then (32*k+26)::p7 4 v else (32*k+27)::p7 8 v
def rV (l:List Nat):ByteArray:=⟨(l.map UInt8.ofNat).toArray⟩
theorem mT (l:List Nat):strOfNums (l.map fun (n:Nat)=>(n:Int))=rV l:=by
 unfold strOfNums rV
 rw[List.map_map];rfl
theorem uU (a b:List Nat):rV (a++b)=rV a++rV b:=by
 unfold rV
 apply ByteArray.ext
 simp[ByteArray.data_append]
def VB (t:ByteArray):ByteArray:=rV (dJ 2 t.size)++t
theorem WY:∀ k:Fin 8,∀ b:Fin 32,bits .or .u8 ((32*k.1:Nat):Int) (b.1:Int)=((32*k.1+b.1:Nat):Int):=by decide
theorem UY {k b:Nat} (hk:k<8) (hb:b<32):bits .or .u8 ((32*k:Nat):Int) (b:Int)=((32*k+b:Nat):Int):=WY ⟨k,hk⟩ ⟨b,hb⟩
theorem wrap_u64 {n:Int} (h0:0≤n) (h1:n<18446744073709551616):IntKind.u64.wrap n=n:=by
 show n % 18446744073709551616=n
 omega
theorem o6 (n:Nat):IntKind.u8.wrap (n:Int)=((n % 256:Nat):Int):=by
 show (n:Int) % 256=_
 omega
theorem c0 (n:Nat) (d:Nat):IntKind.u8.wrap ((n:Int) / (d:Int))=((n / d % 256:Nat):Int):=by
 rw[show ((n:Int) / (d:Int))=((n / d:Nat):Int) from (Int.natCast_ediv ..).symm]
 exact o6 _
section
variable {V c d : Int} {k v : Nat}
theorem WS (hV:V=(v:Int)) (hc:c=((32*k:Nat):Int)) (hk:k<8) (h:v<24):[bits .or .u8 c (IntKind.u8.wrap V)]=(dJ k v).map fun (n:Nat)=>(n:Int):=by
 subst hV hc
 unfold dJ
 rw[if_pos h,o6,Nat.mod_eq_of_lt (by omega),UY hk (by omega)];rfl
theorem HU (hc:c=((32*k:Nat):Int)) (hk:k<8) {m:Nat} (hd:d=(m:Int)) (hm:m<32):bits .or .u8 c d=((32*k+m:Nat):Int):=by
 subst hc hd
 exact UY hk hm
theorem VZ (v:Nat):p7 1 v=[v / 1 % 256]:=eR 0 v
theorem WL (v:Nat):p7 2 v=[v / 256 % 256,v / 1 % 256]:=by rw[eR 1,VZ]
theorem WM (v:Nat):p7 4 v=[v / 16777216 % 256,v / 65536 % 256,v / 256 % 256,v / 1 % 256]:=by rw[eR 3,eR 2,WL]
theorem WQ (v:Nat):p7 8 v=[v / 72057594037927936 % 256,v / 281474976710656 % 256,v / 1099511627776 % 256,v / 4294967296 % 256,v / 16777216 % 256,v / 65536 % 256,v / 256 % 256,v / 1 % 256]:=by rw[eR 7,eR 6,eR 5,eR 4,WM]
theorem WT (hV:V=(v:Int)) (hc:c=((32*k:Nat):Int)) (hk:k<8) (hd:d=((24:Nat):Int)) (h:24≤v) (h':v<256):[bits .or .u8 c d,IntKind.u8.wrap (V / 2 ^ 0)]=(dJ k v).map fun (n:Nat)=>(n:Int):=by
 subst hV
 unfold dJ
 rw[if_neg (by omega),if_pos h',HU hc hk hd (by omega),VZ]
 exact congrArg _ (congrArg (fun z=>[z]) (c0 v 1))
theorem WU (hV:V=(v:Int)) (hc:c=((32*k:Nat):Int)) (hk:k<8) (hd:d=((25:Nat):Int)) (h:256≤v) (h':v<65536):[bits .or .u8 c d,IntKind.u8.wrap (V / 2 ^ 8),IntKind.u8.wrap (V / 2 ^ 0)]=(dJ k v).map fun (n:Nat)=>(n:Int):=by
 subst hV
 unfold dJ
 rw[if_neg (by omega),if_neg (by omega),if_pos h',HU hc hk hd (by omega),WL]
 refine congrArg _ (congr (congrArg List.cons (c0 v 256)) (congrArg (fun z=>[z]) (c0 v 1)))
theorem WV (hV:V=(v:Int)) (hc:c=((32*k:Nat):Int)) (hk:k<8) (hd:d=((26:Nat):Int)) (h:65536≤v) (h':v<4294967296):[bits .or .u8 c d,IntKind.u8.wrap (V / 2 ^ 24),IntKind.u8.wrap (V / 2 ^ 16),IntKind.u8.wrap (V / 2 ^ 8),IntKind.u8.wrap (V / 2 ^ 0)]=(dJ k v).map fun (n:Nat)=>(n:Int):=by
 subst hV
 unfold dJ
 rw[if_neg (by omega),if_neg (by omega),if_neg (by omega),if_pos h',HU hc hk hd (by omega),WM]
 refine congrArg _ (congr (congrArg List.cons (c0 v 16777216)) (congr (congrArg List.cons (c0 v 65536)) (congr (congrArg List.cons (c0 v 256)) (congrArg (fun z=>[z]) (c0 v 1)))))
theorem WW (hV:V=(v:Int)) (hc:c=((32*k:Nat):Int)) (hk:k<8) (hd:d=((27:Nat):Int)) (h:4294967296≤v):[bits .or .u8 c d,IntKind.u8.wrap (V / 2 ^ 56),IntKind.u8.wrap (V / 2 ^ 48),IntKind.u8.wrap (V / 2 ^ 40),IntKind.u8.wrap (V / 2 ^ 32),IntKind.u8.wrap (V / 2 ^ 24),IntKind.u8.wrap (V / 2 ^ 16),IntKind.u8.wrap (V / 2 ^ 8),IntKind.u8.wrap (V / 2 ^ 0)]=(dJ k v).map fun (n:Nat)=>(n:Int):=by
 subst hV
 unfold dJ
 rw[if_neg (by omega),if_neg (by omega),if_neg (by omega),if_neg (by omega),HU hc hk hd (by omega),WQ]
 refine congrArg _ (congr (congrArg List.cons (c0 v 72057594037927936)) (congr (congrArg List.cons (c0 v 281474976710656)) (congr (congrArg List.cons (c0 v 1099511627776)) (congr (congrArg List.cons (c0 v 4294967296)) (congr (congrArg List.cons (c0 v 16777216)) (congr (congrArg List.cons (c0 v 65536)) (congr (congrArg List.cons (c0 v 256)) (congrArg (fun z=>[z]) (c0 v 1)))))))))
theorem JR (hV:V=(v:Int)) {A1 A2 A3 A5 A9:Prop} (h1:v<24→A1) (h2:24≤v→v<256→A2) (h3:256≤v→v<65536→A3) (h5:65536≤v→v<4294967296→A5) (h9:4294967296≤v→A9) :
  aI (decide (V<24)) A1 (aI (!decide (V / 2 ^ 8=0)) (aI (!decide (V / 2 ^ 16=0)) (aI (!decide (V / 2 ^ 32=0)) A9 A5) A3) A2):=by
 subst hV
 have q:∀ d:Nat,0<d→((v:Int) / (d:Int)=0↔v<d):=fun d hd=>by
  rw[←Int.natCast_ediv]
  constructor
  ·intro h
   exact (Nat.div_eq_zero_iff_lt hd).1 (by omega)
  ·intro h
   have:=(Nat.div_eq_zero_iff_lt hd).2 h
   omega
 have q8:(v:Int) / 2 ^ 8=0↔v<256:=q 256 (by omega)
 have q16:(v:Int) / 2 ^ 16=0↔v<65536:=q 65536 (by omega)
 have q32:(v:Int) / 2 ^ 32=0↔v<4294967296:=q 4294967296 (by omega)
 by_cases c1:v<24
 ·rw[decide_eq_true (by omega:(v:Int)<24)];exact h1 c1
 rw[decide_eq_false (by omega:¬ (v:Int)<24)]
 by_cases c2:v<256
 ·rw[decide_eq_true (q8.2 c2)];exact h2 (by omega) c2
 rw[decide_eq_false (fun h=>c2 (q8.1 h))]
 by_cases c3:v<65536
 ·rw[decide_eq_true (q16.2 c3)];exact h3 (by omega) c3
 rw[decide_eq_false (fun h=>c3 (q16.1 h))]
 by_cases c5:v<4294967296
 ·rw[decide_eq_true (q32.2 c5)];exact h5 (by omega) c5
 rw[decide_eq_false (fun h=>c5 (q32.1 h))]
 exact h9 (by omega)
end
end Go.Pv
namespace Go.Pv
open Go Go.Proofs
def iR (a0:Int) (a1:Int):List T:=[T.v (.slice none 0 0),T.v (.int .i64 a0),T.v (.int .u64 a1)]
noncomputable def xW:Env:=Env.of []
def GK:FuncId→Hint:=gJ 87 [(5,.p0 5),(9,.p0 10)] (fun _=>bT)
theorem ID:aM Tryz.prog xW:=.nil _
def WF(a1:Int):List T:=[T.v (Value.int IntKind.u8 (IntKind.u8.wrap (a1 / 2 ^ 0)))]
def W0(a1:Int):List T:=[T.v (Value.int IntKind.u8 (IntKind.u8.wrap (a1 / 2 ^ 8)))]
def XI(a1:Int):List T:=[T.v (Value.int IntKind.u8 (IntKind.u8.wrap (a1 / 2 ^ 24)))]
def XJ(a1:Int):List T:=[T.v (Value.int IntKind.u8 (IntKind.u8.wrap (a1 / 2 ^ 16)))]
def yD(a0:Int)(a1:Int)(R:T→Prop):Prop:=aI (decide (a1<24)) (bJ true (R (T.sl false [[T.v (Value.int IntKind.u8 (bits BinOp.or IntKind.u8 (IntKind.u8.wrap (IntKind.i64.wrap (a0*2 ^ Int.toNat 5))) (IntKind.u8.wrap a1)))]]))) (aI (!decide (a1 / 2 ^ 8=0)) (aI (!decide (a1 / 2 ^ 16=0)) (aI (!decide (a1 / 2 ^ 32=0)) (bJ true (bJ true (bJ true (bJ true (bJ true (bJ true (bJ true (bJ true (bJ true (R (T.sl false [[T.v (Value.int IntKind.u8 (bits BinOp.or IntKind.u8 (IntKind.u8.wrap (IntKind.i64.wrap (a0*2 ^ Int.toNat 5))) (IntKind.u8.wrap (IntKind.i64.wrap (24 + IntKind.i64.wrap (IntKind.i64.wrap (IntKind.i64.wrap (0+1)+1)+1))))))], [T.v (Value.int IntKind.u8 (IntKind.u8.wrap (a1 / 2 ^ 56)))], [T.v (Value.int IntKind.u8 (IntKind.u8.wrap (a1 / 2 ^ 48)))], [T.v (Value.int IntKind.u8 (IntKind.u8.wrap (a1 / 2 ^ 40)))], [T.v (Value.int IntKind.u8 (IntKind.u8.wrap (a1 / 2 ^ 32)))], (XI a1), (XJ a1), (W0 a1), (WF a1)]))))))))))) (bJ true (bJ true (bJ true (bJ true (bJ true (R (T.sl false [[T.v (Value.int IntKind.u8 (bits BinOp.or IntKind.u8 (IntKind.u8.wrap (IntKind.i64.wrap (a0*2 ^ Int.toNat 5))) (IntKind.u8.wrap (IntKind.i64.wrap (24+IntKind.i64.wrap (IntKind.i64.wrap (0+1)+1))))))], (XI a1), (XJ a1), (W0 a1), (WF a1)])))))))) (bJ true (bJ true (bJ true (R (T.sl false [[T.v (Value.int IntKind.u8 (bits BinOp.or IntKind.u8 (IntKind.u8.wrap (IntKind.i64.wrap (a0*2 ^ Int.toNat 5))) (IntKind.u8.wrap (IntKind.i64.wrap (24+IntKind.i64.wrap (0+1))))))], (W0 a1), (WF a1)])))))) (bJ true (bJ true (R (T.sl false [[T.v (Value.int IntKind.u8 (bits BinOp.or IntKind.u8 (IntKind.u8.wrap (IntKind.i64.wrap (a0*2 ^ Int.toNat 5))) (IntKind.u8.wrap (IntKind.i64.wrap (24+0)))))], (WF a1)])))))
theorem D2 ( a0 a1 R):xS bD Tryz.prog xW GK 8 87 (iR a0 a1) R=yD a0 a1 R:=by kernel_rfl
def HD (k v:Nat):List Int:=(dJ k v).map fun (n:Nat)=>(n:Int)
def oS (x:Int×Int):Option T:=match decide (0≤x.1)&&decide (x.1<8)&&decide (0≤x.2)&&decide (x.2<18446744073709551616) with
 | true=>some (T.sl false (List.map (Sy.int .u8).enc (HD x.1.toNat x.2.toNat)))
 | false=>none
theorem AR (x y:Int×Int) (h:iR x.1 x.2=iR y.1 y.2):x=y:=by
 simp only[iR,List.cons.injEq,T.v.injEq,Value.int.injEq,true_and,and_true] at h
 exact Prod.ext h.1 h.2
noncomputable def l5:List T→Option (T):=gA (fun (x:Int×Int)=>iR x.1 x.2) oS
theorem E8 (a0:Int) (a1:Int):l5 (iR a0 a1)=oS (a0,a1):=UG (A:=(fun (x:Int×Int)=>iR x.1 x.2)) AR (a0,a1)
theorem NH (h:∀ (a0:Int) (a1:Int) (r:T),oS (a0,a1)=some r→(∀ t∈iR a0 a1,Bd t)→yD a0 a1 (fun y=>y=r)):bE Tryz.prog 87 l5 :=
 NX (E:=xW) (Hs:=GK) ID bF bG (aX rfl) 8 ⟨_,_,Tryz.func87,rfl⟩ fun x r h1 h2=>by
  rw[D2]
  exact h x.1 x.2 r h1 h2
theorem DM {c:Bool} {a r:T} (h:(match c with|true=>some a|false=>none)=some r):c=true∧a=r:=by
 cases c with
 | true=>exact ⟨rfl,Option.some.inj h⟩
 | false=>cases h
theorem CI {k v:Nat} {l:List Int} (h:l=(dJ k v).map fun (n:Nat)=>(n:Int)):T.sl false (List.map (Sy.int .u8).enc l)=T.sl false (List.map (Sy.int .u8).enc (HD k v)):=by rw[h];rfl
theorem MA:bE Tryz.prog 87 l5:=NH fun a0 a1 r h hb=>by
 clear hb
 obtain ⟨hc,rfl⟩:=DM h
 clear h
 simp only[Bool.and_eq_true,decide_eq_true_eq] at hc
 obtain ⟨⟨⟨h1,h2⟩,h3⟩,h4⟩:=hc
 obtain ⟨k,rfl⟩:=Int.eq_ofNat_of_zero_le h1
 obtain ⟨v,rfl⟩:=Int.eq_ofNat_of_zero_le h3
 have hk:k<8:=by omega
 have hw:IntKind.u8.wrap (IntKind.i64.wrap ((k:Int)*2 ^ Int.toNat 5))=((32*k:Nat):Int):=by
  have e:((k:Int)*2 ^ Int.toNat 5)=((32*k:Nat):Int):=by
   rw[show (2:Int) ^ Int.toNat 5=32 from rfl];omega
  rw[e,show IntKind.i64.wrap ((32*k:Nat):Int)=((32*k:Nat):Int) from bB _ (by omega) (by omega),o6,Nat.mod_eq_of_lt (by omega)]
 unfold yD XJ XI W0 WF
 dsimp only[Int.toNat_natCast]
 refine JR rfl (fun h=>⟨rfl,?_⟩) (fun h h'=>⟨rfl,rfl,?_⟩) (fun h h'=>⟨rfl,rfl,rfl,?_⟩) (fun h h'=>⟨rfl,rfl,rfl,rfl,rfl,?_⟩) (fun h=>⟨rfl,rfl,rfl,rfl,rfl,rfl,rfl,rfl,rfl,?_⟩)
 ·exact CI (WS (k:=k) rfl hw hk h)
 ·exact CI (WT (k:=k) rfl hw hk rfl h h')
 ·exact CI (WU (k:=k) rfl hw hk rfl h h')
 ·exact CI (WV (k:=k) rfl hw hk rfl h h')
 ·exact CI (WW (k:=k) rfl hw hk rfl h)
end Go.Pv
namespace Go.Pv
open Go Go.Proofs
def pA (l:List Nat):Nat:=l.foldl (fun v b=>256*v+b) 0
theorem tB (l:List Nat) (b:Nat):pA (l++[b])=256*pA l+b:=by unfold pA;rw[List.foldl_append];rfl
theorem yW:∀ (n:Nat) (l:List Nat),l.length=n→(∀ b∈l,b<256)→pA l<256 ^ n
 | 0,l,hl,_=>by rw[List.length_eq_zero_iff.1 hl];exact Nat.one_pos
 | n+1,l,hl,hb=>by
  have hne:l≠[]:=fun e=>by rw[e] at hl;cases hl
  have e:=List.dropLast_concat_getLast hne
  rw[←e,tB]
  have h1:=yW n l.dropLast (by rw[List.length_dropLast,hl];rfl) fun b h=>hb b ((List.dropLast_sublist l).mem h)
  have h2:=hb _ (List.getLast_mem hne)
  have h3:256 ^ (n+1)=256*256 ^ n:=by rw[Nat.pow_succ,Nat.mul_comm]
  rw[h3]
  have h4:256*(pA l.dropLast+1)≤256*256 ^ n:=Nat.mul_le_mul_left 256 h1
  omega
theorem SN {v b:Nat} (hv:v<72057594037927936) (hb:b<256):bits .or .u64 (IntKind.u64.wrap ((v:Int)*2 ^ Int.toNat 8)) (IntKind.u64.wrap (b:Int))=((256*v+b:Nat):Int):=by
 have e1:IntKind.u64.wrap ((v:Int)*2 ^ Int.toNat 8)=((256*v:Nat):Int):=by
  rw[show (2:Int) ^ Int.toNat 8=256 from rfl,wrap_u64 (by omega) (by omega)];omega
 have e2:IntKind.u64.wrap (b:Int)=(b:Int):=wrap_u64 (by omega) (by omega)
 rw[e1,e2]
 show IntKind.u64.wrap ((BitVec.ofInt 64 ((256*v:Nat):Int) ||| BitVec.ofInt 64 (b:Int)).toNat:Int)=_
 rw[BitVec.toNat_or,BitVec.toNat_ofInt,BitVec.toNat_ofInt]
 have n1:(((256*v:Nat):Int) % ((2 ^ 64:Nat):Int)).toNat=v <<< 8:=by
  rw[Nat.shiftLeft_eq];omega
 have n2:((b:Int) % ((2 ^ 64:Nat):Int)).toNat=b:=by omega
 rw[n1,n2,←Nat.shiftLeft_add_eq_or_of_lt (show b<2 ^ 8 from hb),Nat.shiftLeft_eq,wrap_u64 (by omega) (by omega)]
 omega
def aU (s:ByteArray) (one two:Int):Int×Int×Int×Int :=
 match s.data.toList with
 | []=>(0,0,0,3)
 | b::l =>
  if (¬ ((b.toNat / 32:Nat):Int)=one∧¬ ((b.toNat / 32:Nat):Int)=two)∨27<b.toNat % 32 then (0,0,0,5)
  else if b.toNat % 32<24 then (((b.toNat / 32:Nat):Int),((b.toNat % 32:Nat):Int),1,0)
  else if l.length<2 ^ (b.toNat % 32-24) then (0,0,0,3)
  else if rV (dJ (b.toNat / 32) (pA ((l.take (2 ^ (b.toNat % 32-24))).map UInt8.toNat)))=s.extract 0 (1+2 ^ (b.toNat % 32-24)) then
   (((b.toNat / 32:Nat):Int),((pA ((l.take (2 ^ (b.toNat % 32-24))).map UInt8.toNat):Nat):Int),((1+2 ^ (b.toNat % 32-24):Nat):Int),0)
  else (0,0,0,5)
end Go.Pv
namespace Go.Pv
open Go Go.Proofs
noncomputable def DP:Env:=Env.of [(9000000000,.mark),(87,.pure l5)]
def LC:FuncId→Hint:=gJ 41 [(13,.inv [.val 7 false (.int .u64),.val 73 false (.int .i64)])] (fun _=>bT)
theorem K9:aM Tryz.prog DP:=.cons (x:=.mark) trivial (.cons MA (.nil _))
def f9:Sy:=Sy.int IntKind.u8
def AC(a0:aD)(y1:Int)(s3:Int×Int×PUnit)(X2:Int×Int×PUnit→Prop):Prop:=gV f9 (List.map (fun (b:UInt8)=>[T.v (Value.int IntKind.u8 (↑b.toNat:Int))]) (ByteArray.extract a0.1 (Int.toNat 1) (IntKind.i64.wrap (1 + IntKind.i64.wrap (1 * 2 ^ (IntKind.i64.wrap (IntKind.i64.wrap (bits BinOp.and IntKind.u8 y1 31) - 24)).toNat))).toNat).data.1) s3.2.1 fun (y4:Int)=>bJ true (X2 (bits BinOp.or IntKind.u64 (IntKind.u64.wrap (s3.1*2 ^ Int.toNat 8)) (IntKind.u64.wrap y4), IntKind.i64.wrap (s3.2.1+1),()))
def IR(a0:aD)(y0:Int)(s3:Int×Int×PUnit)(y1:Int):List T:=[aE true aC a0, T.v (.int .i64 (IntKind.i64.wrap (y0 / 2 ^ Int.toNat 5))), T.v (.int .u64 s3.1), T.v (.int .i64 (IntKind.i64.wrap (1 + IntKind.i64.wrap (1 * 2 ^ (IntKind.i64.wrap (IntKind.i64.wrap (bits BinOp.and IntKind.u8 y1 31) - 24)).toNat)))), T.v (.int .i64 0)]
def NE(R:T→Prop)(a0:aD):Prop:=R (T.aT [aE true aC a0,T.v (.int .i64 0), T.v (.int .u64 0),T.v (.int .i64 0), T.v (.int .i64 3)])
def PP(R:T→Prop)(a0:aD):Prop:=R (T.aT [aE true aC a0,T.v (.int .i64 0), T.v (.int .u64 0),T.v (.int .i64 0), T.v (.int .i64 5)])
def ST(a0:aD)(y0:Int)(y1:Int):List T:=[aE true aC a0, T.v (.int .i64 (IntKind.i64.wrap (y0 / 2 ^ Int.toNat 5))), T.v (.int .u64 (IntKind.u64.wrap (IntKind.i64.wrap (bits BinOp.and IntKind.u8 y1 31)))), T.v (.int .i64 1),T.v (.int .i64 0)]
def W8(y0:Int)(s3:Int×Int×PUnit):List T:=[T.v (Value.slice none 0 0), T.v (.int .i64 (IntKind.i64.wrap (y0 / 2 ^ Int.toNat 5))), T.v (.int .u64 s3.1)]
def D3(a0:aD)(a1:Int)(a2:Int)(R:T→Prop):Prop:=aI (decide (a0.1 = {data:=#[]})) (NE R a0) (wK a0.1 0 fun (y0:Int)=>bJ true (wK a0.1 0 fun (y1:Int)=>aI (!decide (IntKind.i64.wrap (y0 / 2 ^ Int.toNat 5)=a1)) (aI (!decide (IntKind.i64.wrap (y0 / 2 ^ Int.toNat 5)=a2)) (PP R a0) (aI (decide (27<IntKind.i64.wrap (bits BinOp.and IntKind.u8 y1 31))) (PP R a0) (aI (decide (IntKind.i64.wrap (bits BinOp.and IntKind.u8 y1 31)<24)) (R (T.aT (ST a0 y0 y1))) (bJ (decide (0≤IntKind.i64.wrap (IntKind.i64.wrap (bits BinOp.and IntKind.u8 y1 31)-24)) && decide (IntKind.i64.wrap (IntKind.i64.wrap (bits BinOp.and IntKind.u8 y1 31)-24) ≤ (↑64:Int))) (aI (decide ((↑(ByteArray.size a0.1):Int) < IntKind.i64.wrap (1 + IntKind.i64.wrap (1 * 2 ^ (IntKind.i64.wrap (IntKind.i64.wrap (bits BinOp.and IntKind.u8 y1 31)-24)).toNat)))) (NE R a0) (bJ (decide (0 ≤ IntKind.i64.wrap (1 + IntKind.i64.wrap (1 * 2 ^ (IntKind.i64.wrap (IntKind.i64.wrap (bits BinOp.and IntKind.u8 y1 31) - 24)).toNat))) && decide ((IntKind.i64.wrap (1 + IntKind.i64.wrap (1 * 2 ^ (IntKind.i64.wrap (IntKind.i64.wrap (bits BinOp.and IntKind.u8 y1 31) - 24)).toNat))).toNat ≤ ByteArray.size a0.1) && decide (Int.toNat 1 ≤ (IntKind.i64.wrap (1 + IntKind.i64.wrap (1 * 2 ^ (IntKind.i64.wrap (IntKind.i64.wrap (bits BinOp.and IntKind.u8 y1 31) - 24)).toNat))).toNat)) (bJ (decide ((ByteArray.extract a0.1 (Int.toNat 1) (IntKind.i64.wrap (1 + IntKind.i64.wrap (1 * 2 ^ (IntKind.i64.wrap (IntKind.i64.wrap (bits BinOp.and IntKind.u8 y1 31) - 24)).toNat))).toNat).size ≤ 140737488355328)) (eU (Int×Int×PUnit) (fun X2 s3=>aI (decide (s3.2.1 < (↑(fW (ByteArray.extract a0.1 (Int.toNat 1) (IntKind.i64.wrap (1 + IntKind.i64.wrap (1 * 2 ^ (IntKind.i64.wrap (IntKind.i64.wrap (bits BinOp.and IntKind.u8 y1 31) - 24)).toNat))).toNat)).length : Int))) (AC a0 y1 s3 X2) (aF [(false,f9.li)] (l5 (W8 y0 s3)) fun (y5:List Int)=>gR f9 (List.map f9.enc y5) fun (y6:List Int)=>bJ (decide (0 ≤ IntKind.i64.wrap (1 + IntKind.i64.wrap (1 * 2 ^ (IntKind.i64.wrap (IntKind.i64.wrap (bits BinOp.and IntKind.u8 y1 31) - 24)).toNat))) && decide ((IntKind.i64.wrap (1 + IntKind.i64.wrap (1 * 2 ^ (IntKind.i64.wrap (IntKind.i64.wrap (bits BinOp.and IntKind.u8 y1 31) - 24)).toNat))).toNat ≤ ByteArray.size a0.1) && true) (aI (!decide (strOfNums y6 = ByteArray.extract a0.1 0 (IntKind.i64.wrap (1 + IntKind.i64.wrap (1 * 2 ^ (IntKind.i64.wrap (IntKind.i64.wrap (bits BinOp.and IntKind.u8 y1 31) - 24)).toNat))).toNat)) (R (T.aT [aE true aC a0, T.v (.int .i64 0), T.v (.int .u64 0), T.v (.int .i64 0), T.v (.int .i64 5)])) (R (T.aT (IR a0 y0 s3 y1)))))) (0,0,()))))))))) (aI (decide (27<IntKind.i64.wrap (bits BinOp.and IntKind.u8 y1 31))) (PP R a0) (aI (decide (IntKind.i64.wrap (bits BinOp.and IntKind.u8 y1 31)<24)) (R (T.aT (ST a0 y0 y1))) (bJ (decide (0≤IntKind.i64.wrap (IntKind.i64.wrap (bits BinOp.and IntKind.u8 y1 31)-24)) && decide (IntKind.i64.wrap (IntKind.i64.wrap (bits BinOp.and IntKind.u8 y1 31)-24) ≤ (↑64:Int))) (aI (decide ((↑(ByteArray.size a0.1):Int) < IntKind.i64.wrap (1 + IntKind.i64.wrap (1 * 2 ^ (IntKind.i64.wrap (IntKind.i64.wrap (bits BinOp.and IntKind.u8 y1 31)-24)).toNat)))) (NE R a0) (bJ (decide (0 ≤ IntKind.i64.wrap (1 + IntKind.i64.wrap (1 * 2 ^ (IntKind.i64.wrap (IntKind.i64.wrap (bits BinOp.and IntKind.u8 y1 31) - 24)).toNat))) && decide ((IntKind.i64.wrap (1 + IntKind.i64.wrap (1 * 2 ^ (IntKind.i64.wrap (IntKind.i64.wrap (bits BinOp.and IntKind.u8 y1 31) - 24)).toNat))).toNat ≤ ByteArray.size a0.1) && decide (Int.toNat 1 ≤ (IntKind.i64.wrap (1 + IntKind.i64.wrap (1 * 2 ^ (IntKind.i64.wrap (IntKind.i64.wrap (bits BinOp.and IntKind.u8 y1 31) - 24)).toNat))).toNat)) (bJ (decide ((ByteArray.extract a0.1 (Int.toNat 1) (IntKind.i64.wrap (1 + IntKind.i64.wrap (1 * 2 ^ (IntKind.i64.wrap (IntKind.i64.wrap (bits BinOp.and IntKind.u8 y1 31) - 24)).toNat))).toNat).size ≤ 140737488355328)) (eU (Int×Int×PUnit) (fun X7 s8=>aI (decide (s8.2.1 < (↑(fW (ByteArray.extract a0.1 (Int.toNat 1) (IntKind.i64.wrap (1 + IntKind.i64.wrap (1 * 2 ^ (IntKind.i64.wrap (IntKind.i64.wrap (bits BinOp.and IntKind.u8 y1 31) - 24)).toNat))).toNat)).length : Int))) (AC a0 y1 s8 X7) (aF [(false,f9.li)] (l5 (W8 y0 s8)) fun (y10:List Int)=>gR f9 (List.map f9.enc y10) fun (y11:List Int)=>bJ (decide (0 ≤ IntKind.i64.wrap (1 + IntKind.i64.wrap (1 * 2 ^ (IntKind.i64.wrap (IntKind.i64.wrap (bits BinOp.and IntKind.u8 y1 31) - 24)).toNat))) && decide ((IntKind.i64.wrap (1 + IntKind.i64.wrap (1 * 2 ^ (IntKind.i64.wrap (IntKind.i64.wrap (bits BinOp.and IntKind.u8 y1 31) - 24)).toNat))).toNat ≤ ByteArray.size a0.1) && true) (aI (!decide (strOfNums y11 = ByteArray.extract a0.1 0 (IntKind.i64.wrap (1 + IntKind.i64.wrap (1 * 2 ^ (IntKind.i64.wrap (IntKind.i64.wrap (bits BinOp.and IntKind.u8 y1 31) - 24)).toNat))).toNat)) (R (T.aT [aE true aC a0,T.v (.int .i64 0), T.v (.int .u64 0), T.v (.int .i64 0), T.v (.int .i64 5)])) (R (T.aT (IR a0 y0 s8 y1)))))) (0,0,()))))))))))
theorem IS ( a0 a1 a2 R):dN bD Tryz.prog DP LC 8 41 [aE true aC a0,aE false (Sy.int IntKind.i64) a1,
 aE false (Sy.int IntKind.i64) a2] R=D3 a0 a1 a2 R:=by kernel_rfl
abbrev AD:Sh:=[(true,aC),(false,(Sy.int IntKind.i64)),(false,(Sy.int IntKind.i64))]
abbrev zY:Sh:=[(true,aC),(false,Sy.int IntKind.i64),(false,Sy.int IntKind.u64),(false,Sy.int IntKind.i64),(false,Sy.int IntKind.i64)]
theorem TR:∀ b:Fin 256,IntKind.i64.wrap (bits .and .u8 (b.1:Int) 31)=((b.1 % 32:Nat):Int):=by decide
theorem zI (b:UInt8):IntKind.i64.wrap ((b.toNat:Int) / 2 ^ Int.toNat 5)=((b.toNat / 32:Nat):Int):=by
 have:=b.toNat_lt
 rw[show (2:Int) ^ Int.toNat 5=32 from rfl,bB _ (by omega) (by omega)];omega
theorem WX (b:UInt8):IntKind.i64.wrap (bits .and .u8 (b.toNat:Int) 31)=((b.toNat % 32:Nat):Int):=TR ⟨b.toNat,b.toNat_lt⟩
theorem VG {p q:Bool} {X Y:Prop} (h1:p=false→q=false→X) (h2:p=true∨q=true→Y):aI (!p) (aI (!q) X Y) Y:=by
 cases p<;>cases q
 ·exact h1 rfl rfl
 ·exact h2 (.inr rfl)
 ·exact h2 (.inl rfl)
 ·exact h2 (.inl rfl)
theorem U9 {m:Nat} (h1:24≤m) (h2:m≤27):IntKind.i64.wrap (1+IntKind.i64.wrap (1*2 ^ (IntKind.i64.wrap ((m:Int)-24)).toNat))=((1+2 ^ (m-24):Nat):Int):=by
 have:m=24∨m=25∨m=26∨m=27:=by omega
 rcases this with rfl|rfl|rfl|rfl<;>rfl
theorem countP {m:Nat} (h1:24≤m) (h2:m≤27):IntKind.i64.wrap ((m:Int)-24)=((m-24:Nat):Int):=by
 have:m=24∨m=25∨m=26∨m=27:=by omega
 rcases this with rfl|rfl|rfl|rfl<;>rfl
noncomputable def AK (x:cC×Int×Int):Option T:=some (Sh.enc zY (x.1,aU x.1.1 x.2.1 x.2.2))
noncomputable def nG:List T→Option (T):=gS AD AK
theorem wZ {a0 a1 a2}:nG [aE true aC a0,T.v (.int .i64 a1),
 T.v (.int .i64 a2)]=AK (a0,a1,a2):=cI (s:=AD) rfl (a0,a1,a2) rfl
theorem P9 (h:∀ a0 a1 a2 r,AK (a0,a1,a2)=some r→e6 AD (a0,a1,a2)→D3 a0 a1 a2 (fun y=>y=r)):bN Tryz.prog 41 nG :=
 cJ (E:=DP) (Hs:=LC) K9 bF bG (aX rfl) 8 ⟨_,_,Tryz.func41,rfl⟩ rfl fun x r h1 h2=>by
  obtain ⟨a0,a1,a2⟩:=x
  rw[show Sh.dI AD (a0,a1,a2)=[aE true aC a0,aE false (Sy.int IntKind.i64) a1,
 aE false (Sy.int IntKind.i64) a2] from rfl,IS]
  exact h a0 a1 a2 r h1 h2
theorem HB:bN Tryz.prog 41 nG:=P9 fun a0 a1 a2 r h hb=>by
 cases h
 clear hb
 obtain ⟨s,e0⟩:=a0
 unfold D3 W8 ST PP NE IR AC f9
 dsimp only
 have no:∀ {e:Int},aU s a1 a2=(0,0,0,e)→T.aT [aE true aC (s,e0),T.v (.int .i64 0),T.v (.int .u64 0),T.v (.int .i64 0),T.v (.int .i64 e)]=Sh.enc zY ((s,e0),aU s a1 a2):=fun h=>by rw[h];rfl
 cases hl:s.data.toList with
 | nil =>
  have hs:s=⟨#[]⟩:=by
   cases s with
   | mk d=>cases d;simp at hl;subst hl;rfl
  have pk:aU s a1 a2=(0,0,0,3):=by unfold aU;rw[hl]
  exact eQ (fun _=>no pk) fun h=>absurd hs h
 | cons b l =>
  have hne:s≠⟨#[]⟩:=fun e=>by subst e;simp at hl
  have hg:s.data[(0:Int).toNat]? = some b:=by
   show s.data[0]? = some b
   rw[←Array.getElem?_toList,hl];rfl
  refine eQ (fun h=>absurd h hne) fun _=>⟨b,Int.le_refl 0,hg,rfl,b,Int.le_refl 0,hg,?_⟩
  dsimp only
  rw[zI,WX]
  have pk:aU s a1 a2=(if (¬ ((b.toNat / 32:Nat):Int)=a1∧¬ ((b.toNat / 32:Nat):Int)=a2)∨27<b.toNat % 32 then (0,0,0,5)
   else if b.toNat % 32<24 then (((b.toNat / 32:Nat):Int),((b.toNat % 32:Nat):Int),1,0)
   else if l.length<2 ^ (b.toNat % 32-24) then (0,0,0,3)
   else if rV (dJ (b.toNat / 32) (pA ((l.take (2 ^ (b.toNat % 32-24))).map UInt8.toNat)))=s.extract 0 (1+2 ^ (b.toNat % 32-24)) then
    (((b.toNat / 32:Nat):Int),((pA ((l.take (2 ^ (b.toNat % 32-24))).map UInt8.toNat):Nat):Int),((1+2 ^ (b.toNat % 32-24):Nat):Int),0)
   else (0,0,0,5)):=by unfold aU;rw[hl]
  refine VG (fun h1 h2=>no ?_) fun h12=>?_
  ·rw[pk,if_pos (.inl ⟨of_decide_eq_false h1,of_decide_eq_false h2⟩)]
  have h12:¬ (¬ ((b.toNat / 32:Nat):Int)=a1∧¬ ((b.toNat / 32:Nat):Int)=a2):=fun h=>h12.elim (fun e=>h.1 (of_decide_eq_true e)) fun e=>h.2 (of_decide_eq_true e)
  refine eQ (fun h=>no ?_) fun h27=>?_
  ·rw[pk,if_pos (.inr (by omega))]
  have c1:¬ ((¬ ((b.toNat / 32:Nat):Int)=a1∧¬ ((b.toNat / 32:Nat):Int)=a2)∨27<b.toNat % 32):=fun h=>h.elim h12 fun h=>by omega
  rw[if_neg c1] at pk
  refine eQ (fun h=>?_) fun h24=>?_
  ·rw[pk,if_pos (by omega),wrap_u64 (by omega) (by omega)];rfl
  rw[if_neg (by omega)] at pk
  have m1:24≤b.toNat % 32:=by omega
  have m2:b.toNat % 32≤27:=by omega
  rw[U9 m1 m2,countP m1 m2]
  generalize hn:2 ^ (b.toNat % 32-24)=n at *
  have hn':n=1∨n=2∨n=4∨n=8:=by
   have:b.toNat % 32=24∨b.toNat % 32=25∨b.toNat % 32=26∨b.toNat % 32=27:=by omega
   rcases this with h|h|h|h<;>rw[h] at hn<;>simp at hn<;>omega
  have hsz:s.size=l.length+1:=by
   have:=congrArg List.length hl
   simpa using this
  refine ⟨by rw[Bool.and_eq_true];exact ⟨decide_eq_true (by omega),decide_eq_true (by omega)⟩,?_⟩
  refine eQ (fun h=>no ?_) fun hlt=>?_
  ·rw[pk,if_pos (by omega)]
  rw[if_neg (by omega)] at pk
  have hN:((1+n:Nat):Int).toNat=1+n:=Int.toNat_natCast _
  rw[hN]
  have hx:(s.extract (Int.toNat 1) (1+n)).data.toList=l.take n:=by
   rw[ByteArray.data_extract,Array.toList_extract,hl]
   simp
  have hxs:(s.extract (Int.toNat 1) (1+n)).size=n:=by
   have:=congrArg List.length hx
   rw[List.length_take] at this
   have e:(s.extract (Int.toNat 1) (1+n)).data.toList.length=(s.extract (Int.toNat 1) (1+n)).size:=rfl
   omega
  refine ⟨by rw[Bool.and_eq_true,Bool.and_eq_true];exact ⟨⟨decide_eq_true (by omega),decide_eq_true (by omega)⟩,decide_eq_true (by show 1≤_;omega)⟩,decide_eq_true (by omega),?_⟩
  refine dY n (fun k st=>st=(((pA ((l.take k).map UInt8.toNat):Nat):Int),(k:Int),())) rfl ?_
  rintro X k st hk rfl hX
  dsimp only
  have hbl:(fW (s.extract (Int.toNat 1) (1+n))).length=n:=by
   unfold fW;rw[List.length_map,hx,List.length_take];omega
  rw[hbl]
  have hv:∀ j,j≤8→pA ((l.take j).map UInt8.toNat)<256 ^ j:=fun j hj=>by
   have:=yW _ ((l.take j).map UInt8.toNat) rfl (fun b hb=>by
    obtain ⟨c,_,rfl⟩:=List.mem_map.1 hb
    exact c.toNat_lt)
   rw[List.length_map,List.length_take] at this
   exact Nat.lt_of_lt_of_le this (Nat.pow_le_pow_right (by omega) (by omega))
  refine eQ (fun hlt2=>?_) fun hge=>?_
  ·have hkn:k<n:=by omega
   have hkl:k<l.length:=by omega
   refine ⟨((l[k].toNat:Nat):Int),by omega,?_,rfl,?_⟩
   ·rw[Int.toNat_natCast,List.getElem?_map]
    show Option.map _ ((s.extract (Int.toNat 1) (1+n)).data.toList[k]?)=_
    rw[hx,List.getElem?_take,if_pos hkn,List.getElem?_eq_getElem hkl];rfl
   ·refine hX _ hkn ?_
    have h7:pA ((l.take k).map UInt8.toNat)<72057594037927936:=Nat.lt_of_lt_of_le (hv k (by omega)) (Nat.pow_le_pow_right (n:=256) (by omega) (show k≤7 by omega))
    rw[SN h7 l[k].toNat_lt,bB _ (by omega) (by omega)]
    refine Prod.ext ?_ rfl
    show ((256*pA ((l.take k).map UInt8.toNat)+l[k].toNat:Nat):Int)=((pA ((l.take (k+1)).map UInt8.toNat):Nat):Int)
    rw[List.take_succ_eq_append_getElem hkl,List.map_append]
    exact congrArg _ (tB _ _).symm
  ·have hkn:k=n:=by omega
   subst hkn
   have h8:pA ((l.take k).map UInt8.toNat)<18446744073709551616:=Nat.lt_of_lt_of_le (hv k (by omega)) (Nat.pow_le_pow_right (n:=256) (by omega) (show k≤8 by omega))
   have hb8:b.toNat / 32<8:=by have:=b.toNat_lt;omega
   refine aQ (s:=[(false,(Sy.int .u8).li)]) (y:=HD (b.toNat / 32) (pA ((l.take k).map UInt8.toNat))) ?_ ?_
   ·refine (E8 ((b.toNat / 32:Nat):Int) ((pA ((l.take k).map UInt8.toNat):Nat):Int)).trans ?_
    unfold oS
    dsimp only
    rw[decide_eq_true (by omega),decide_eq_true (by omega),decide_eq_true (by omega),decide_eq_true (by omega)]
    rfl
   rw[BV (r:=.int .u8) rfl]
   refine ⟨by rw[Bool.and_eq_true,Bool.and_eq_true];exact ⟨⟨decide_eq_true (by omega),decide_eq_true (by omega)⟩,rfl⟩,?_⟩
   have hst:strOfNums (HD (b.toNat / 32) (pA ((l.take k).map UInt8.toNat)))=rV (dJ (b.toNat / 32) (pA ((l.take k).map UInt8.toNat))):=mT _
   rw[hst]
   refine oC (fun h=>no ?_) fun h=>?_
   ·rw[pk,if_neg h]
   ·rw[pk,if_pos h];rfl
end Go.Pv
namespace Go.Pv
open Go Go.Proofs
theorem iI {s:ByteArray} {one two k v n:Int} (h:aU s one two=(k,v,n,0)):(k=one∨k=two)∧(0≤n∧n.toNat≤s.size)∧0≤v∧v<18446744073709551616:=by
 unfold aU at h
 cases hl:s.data.toList with
 | nil=>rw[hl] at h;simp at h
 | cons b l =>
  have hsz:s.size=l.length+1:=by
   have:=congrArg List.length hl
   simpa using this
  rw[hl] at h
  dsimp only at h
  split at h
  ·simp at h
  rename_i c1
  rw[not_or] at c1
  have ck:((b.toNat / 32:Nat):Int)=one∨((b.toNat / 32:Nat):Int)=two:=by
   rcases Classical.em (((b.toNat / 32:Nat):Int)=one) with g|g
   ·exact .inl g
   ·exact .inr (Classical.byContradiction fun g'=>c1.1 ⟨g,g'⟩)
  split at h
  ·simp only[Prod.mk.injEq] at h
   obtain ⟨rfl,rfl,rfl,_⟩:=h
   exact ⟨ck,⟨by omega,by omega⟩,by omega,by omega⟩
  split at h
  ·simp at h
  rename_i c2
  split at h
  ·simp only[Prod.mk.injEq] at h
   obtain ⟨rfl,rfl,rfl,_⟩:=h
   have h1:2 ^ (b.toNat % 32-24)≤8:=by
    have:b.toNat % 32-24≤3:=by omega
    exact Nat.pow_le_pow_right (n:=2) (by omega) this
   have hv:=yW _ ((l.take (2 ^ (b.toNat % 32-24))).map UInt8.toNat) rfl (fun b hb=>by
    obtain ⟨c,_,rfl⟩:=List.mem_map.1 hb
    exact c.toNat_lt)
   rw[List.length_map,List.length_take] at hv
   have h3:(256:Nat) ^ (min (2 ^ (b.toNat % 32-24)) l.length)≤256 ^ 8:=Nat.pow_le_pow_right (by omega) (by omega)
   exact ⟨ck,⟨Int.natCast_nonneg _,by rw[Int.toNat_natCast];omega⟩,Int.natCast_nonneg _,by omega⟩
  ·simp at h
theorem xor_not {v:Int} (h0:0≤v) (h1:v<9223372036854775808):bits .xor .i64 (if IntKind.i64.signed=true then -1 else IntKind.i64.max) v = -1-v:=by
 show bits .xor .i64 (-1) v = -1-v
 have e1:BitVec.ofInt 64 (-1)=BitVec.allOnes 64:=by decide
 have e2:(BitVec.ofInt 64 v).toNat=(v % 18446744073709551616).toNat:=by rw[BitVec.toNat_ofInt];rfl
 have e3:((BitVec.ofInt 64 (-1) ^^^ BitVec.ofInt 64 v).toNat:Int)=18446744073709551615-v:=by
  rw[e1,BitVec.allOnes_xor,BitVec.toNat_not,e2]
  omega
 show IntKind.i64.wrap ((BitVec.ofInt 64 (-1) ^^^ BitVec.ofInt 64 v).toNat:Int) = -1-v
 rw[e3]
 show (if (true&&decide ((18446744073709551615-v) % 18446744073709551616≥9223372036854775808))=true then (18446744073709551615-v) % 18446744073709551616-18446744073709551616 else (18446744073709551615-v) % 18446744073709551616)=_
 split
 ·omega
 ·rename_i h
  simp at h
  omega
def dE (r:ByteArray×Int) (lo hi:Int):(ByteArray×Int)×Int :=
 if ¬ r.2=0 then (r,0)
 else if ¬ (aU r.1 0 1).2.2.2=0 then ((r.1,(aU r.1 0 1).2.2.2),0)
 else if ¬ (aU r.1 0 1).2.1<9223372036854775808 then ((r.1,5),0)
 else
  let x:=if (aU r.1 0 1).1=1 then -1-(aU r.1 0 1).2.1 else (aU r.1 0 1).2.1
  if x<lo∨hi<x then ((r.1,9),0) else ((r.1.extract (aU r.1 0 1).2.2.1.toNat r.1.size,0),x)
noncomputable def x9:Env:=Env.of [(41,.dR nG)]
def GU:FuncId→Hint:=fun _=>bT
theorem IP:aM Tryz.prog x9:=.cons HB (.nil _)
def f8:Sh:=[(true,aC),(false,Sy.int IntKind.i64),(false,Sy.int IntKind.u64), (false,Sy.int IntKind.i64),(false,Sy.int IntKind.i64)]
def v6(y0:aD×Int×sV):List T:=[T.v (.string (ByteArray.extract y0.1.1 (Int.toNat y0.2.2.2.1) (ByteArray.size y0.1.1))), T.v (.int .i64 y0.2.2.2.2)]
def IO(R:T→Prop)(y0:aD×Int×sV):Prop:=R (T.aT [T.agg [T.v (.string y0.1.1), T.v (.int .i64 y0.2.2.2.2)], T.v (.int .i64 0)])
def m0(y0:aD×Int×sV)(R:T→Prop):Prop:=aI (!decide (y0.2.2.2.2=0)) (IO R y0) (bJ (decide (ByteArray.size y0.1.1≤ByteArray.size y0.1.1) && (decide (0≤y0.2.2.2.1) && decide (Int.toNat y0.2.2.2.1≤ByteArray.size y0.1.1))) (R (T.aT [T.agg (v6 y0), T.v (.int .i64 (IntKind.i64.wrap y0.2.2.1))])))
def WP(y0:aD×Int×sV):List T:=[T.agg (v6 y0), T.v (.int .i64 (bits BinOp.xor IntKind.i64 (if IntKind.i64.signed=true then -1 else IntKind.i64.max) (IntKind.i64.wrap y0.2.2.1)))]
def m6(y0:aD×Int×sV)(R:T→Prop):Prop:=aI (!decide (y0.2.2.2.2=0)) (IO R y0) (bJ (decide (ByteArray.size y0.1.1≤ByteArray.size y0.1.1) && (decide (0≤y0.2.2.2.1) && decide (Int.toNat y0.2.2.2.1≤ByteArray.size y0.1.1))) (R (T.aT (WP y0))))
def t8(R:T→Prop)(y0:aD×Int×sV):Prop:=R (T.aT [T.agg [T.v (.string y0.1.1),T.v (.int .i64 9)], T.v (.int .i64 0)])
def H1(y0:aD×Int×sV)(a1:Int)(R:T→Prop)(a2:Int):Prop:=aI (decide (bits BinOp.xor IntKind.i64 (if IntKind.i64.signed=true then -1 else IntKind.i64.max) (IntKind.i64.wrap y0.2.2.1) < a1)) (t8 R y0) (aI (decide (a2 < bits BinOp.xor IntKind.i64 (if IntKind.i64.signed=true then -1 else IntKind.i64.max) (IntKind.i64.wrap y0.2.2.1))) (t8 R y0) (m6 y0 R))
def M2(y0:aD×Int×sV)(R:T→Prop):Prop:=bJ (decide (ByteArray.size y0.1.1≤ByteArray.size y0.1.1) && (decide (0≤y0.2.2.2.1)&&decide (Int.toNat y0.2.2.2.1≤ByteArray.size y0.1.1))) (R (T.aT [T.agg (v6 y0), T.v (.int .i64 (IntKind.i64.wrap y0.2.2.1))]))
def XE(y0:aD×Int×sV)(a1:Int)(R:T→Prop)(a2:Int):Prop:=aI (decide (IntKind.i64.wrap y0.2.2.1<a1)) (t8 R y0) (aI (decide (a2<IntKind.i64.wrap y0.2.2.1)) (t8 R y0) (m0 y0 R))
def XK(y0:aD×Int×sV):List T:=[T.agg [T.v (.string y0.1.1),T.v (.int .i64 5)], T.v (.int .i64 0)]
def yN(a0:aD)(a1:Int)(a2:Int)(R:T→Prop):Prop:=aI (!decide (a0.2=0)) (R (T.aT [aE true aC a0,T.v (.int .i64 0)])) (aF f8 (nG [aE true aC a0,T.v (.int .i64 0), T.v (.int .i64 1)]) fun (y0:aD×Int×sV)=>aI (decide (y0.2.2.2.2=0)) (aI (!decide (y0.2.2.1 / 2 ^ Int.toNat 63=0)) (aI (decide (y0.2.1=1)) (R (T.aT (XK y0))) (R (T.aT (XK y0)))) (aI (decide (y0.2.1=1)) (aI (decide (y0.2.2.2.2=0)) (H1 y0 a1 R a2) (m6 y0 R)) (aI (decide (y0.2.2.2.2=0)) (XE y0 a1 R a2) (m0 y0 R)))) (aI (decide (y0.2.1=1)) (aI (decide (y0.2.2.2.2=0)) (H1 y0 a1 R a2) (aI (!decide (y0.2.2.2.2=0)) (IO R y0) (bJ (decide (ByteArray.size y0.1.1≤ByteArray.size y0.1.1) && (decide (0≤y0.2.2.2.1)&&decide (Int.toNat y0.2.2.2.1≤ByteArray.size y0.1.1))) (R (T.aT (WP y0)))))) (aI (decide (y0.2.2.2.2=0)) (XE y0 a1 R a2) (aI (!decide (y0.2.2.2.2=0)) (IO R y0) (M2 y0 R)))))
theorem EE ( a0 a1 a2 R):dN bD Tryz.prog x9 GU 8 14 [aE true aC a0,aE false (Sy.int IntKind.i64) a1,
 aE false (Sy.int IntKind.i64) a2] R=yN a0 a1 a2 R:=by kernel_rfl
abbrev sD:Sh:=[(true,aC),(false,(Sy.int IntKind.i64)),(false,(Sy.int IntKind.i64))]
abbrev rZ:Sh:=[(true,aC),(false,Sy.int IntKind.i64)]
def vG (x:cC×Int×Int):Option T:=some (Sh.enc rZ (dE x.1 x.2.1 x.2.2))
noncomputable def bH:List T→Option (T):=gS sD vG
theorem uB {a0 a1 a2}:bH [aE true aC a0,T.v (.int .i64 a1),
 T.v (.int .i64 a2)]=vG (a0,a1,a2):=cI (s:=sD) rfl (a0,a1,a2) rfl
theorem NR (h:∀ a0 a1 a2 r,vG (a0,a1,a2)=some r→e6 sD (a0,a1,a2)→yN a0 a1 a2 (fun y=>y=r)):bN Tryz.prog 14 bH :=
 cJ (E:=x9) (Hs:=GU) IP bF bG (aX rfl) 8 ⟨_,_,Tryz.func14,rfl⟩ rfl fun x r h1 h2=>by
  obtain ⟨a0,a1,a2⟩:=x
  rw[show Sh.dI sD (a0,a1,a2)=[aE true aC a0,aE false (Sy.int IntKind.i64) a1,
 aE false (Sy.int IntKind.i64) a2] from rfl,EE]
  exact h a0 a1 a2 r h1 h2
theorem n5:bN Tryz.prog 14 bH:=NR fun a0 a1 a2 r h hb=>by
 cases h
 clear hb
 obtain ⟨s,e0⟩:=a0
 unfold yN XK XE M2 H1 t8 m6 WP m0 IO v6 f8
 dsimp only
 refine oC (fun h=>by unfold dE;rw[if_pos h];rfl) fun h0=>?_
 refine aQ (s:=zY) (y:=((s,e0),aU s 0 1)) (wZ ..) ?_
 have rd:dE (s,e0) a1 a2=(if ¬ (aU s 0 1).2.2.2=0 then ((s,(aU s 0 1).2.2.2),0)
  else if ¬ (aU s 0 1).2.1<9223372036854775808 then ((s,5),0)
  else
   let x:=if (aU s 0 1).1=1 then -1-(aU s 0 1).2.1 else (aU s 0 1).2.1
   if x<a1∨a2<x then ((s,9),0) else ((s.extract (aU s 0 1).2.2.1.toNat s.size,0),x)):=by
  unfold dE;rw[if_neg (fun h=>h h0)]
 rw[rd]
 generalize hq:aU s 0 1=q
 obtain ⟨k,v,n,e⟩:=q
 dsimp only
 have fin:∀ {y:(ByteArray×Int)×Int},T.aT [T.agg [T.v (.string y.1.1),T.v (.int .i64 y.1.2)],T.v (.int .i64 y.2)]=Sh.enc rZ y:=rfl
 refine eQ (fun he=>?_) fun he=>?_
 ·subst he
  obtain ⟨hk,⟨n1,n2⟩,v1,v2⟩:=iI hq
  rw[if_neg (fun h=>h rfl)]
  have hv:v / 2 ^ Int.toNat 63=0↔v<9223372036854775808:=by
   rw[show (2:Int) ^ Int.toNat 63=9223372036854775808 from rfl];omega
  refine oC (fun h=>?_) fun h=>?_
  ·rw[if_pos (show ¬ v<9223372036854775808 from fun g=>h (hv.2 g))];exact eQ (fun _=>rfl) fun _=>rfl
  have hv':=hv.1 h
  have ww:IntKind.i64.wrap v=v:=bB _ (by omega) (by omega)
  have cn:(decide (s.size≤s.size)&&(decide (0≤n)&&decide (n.toNat≤s.size)))=true:=by
   rw[decide_eq_true (Nat.le_refl _),decide_eq_true n1,decide_eq_true n2];rfl
  rw[ww,xor_not v1 hv',if_neg (show ¬ ¬ v<9223372036854775808 from fun g=>g hv')]
  refine eQ (fun hk1=>?_) fun hk1=>?_
  ·rw[if_pos hk1]
   refine eQ (fun _=>?_) fun h=>absurd rfl h
   refine eQ (fun h=>?_) fun h1=>?_
   ·rw[if_pos (.inl h)];rfl
   refine eQ (fun h=>?_) fun h2=>?_
   ·rw[if_pos (.inr h)];rfl
   rw[if_neg (fun h=>h.elim h1 h2)]
   exact oC (fun h=>absurd rfl h) fun _=>⟨cn,rfl⟩
  ·rw[if_neg hk1]
   refine eQ (fun _=>?_) fun h=>absurd rfl h
   refine eQ (fun h=>?_) fun h1=>?_
   ·rw[if_pos (.inl h)];rfl
   refine eQ (fun h=>?_) fun h2=>?_
   ·rw[if_pos (.inr h)];rfl
   rw[if_neg (fun h=>h.elim h1 h2)]
   exact oC (fun h=>absurd rfl h) fun _=>⟨cn,rfl⟩
 ·rw[if_pos he]
  refine eQ (fun _=>?_) fun _=>?_
  ·refine eQ (fun h=>absurd h he) fun _=>?_
   exact oC (fun _=>rfl) fun h=>absurd h he
  ·refine eQ (fun h=>absurd h he) fun _=>?_
   exact oC (fun _=>rfl) fun h=>absurd h he
end Go.Pv
namespace Go.Pv
open Go Go.Proofs
def aJ (r:ByteArray×Int) (kind most:Int) (follow:Bool):(ByteArray×Int)×Int :=
 if ¬ r.2=0 then (r,0)
 else if ¬ (aU r.1 kind kind).2.2.2=0 then ((r.1,(aU r.1 kind kind).2.2.2),0)
 else if most<0∨most<(aU r.1 kind kind).2.1 then ((r.1,4),0)
 else if follow=true∧(r.1.size:Int)-(aU r.1 kind kind).2.2.1<(aU r.1 kind kind).2.1 then ((r.1,3),0)
 else ((r.1.extract (aU r.1 kind kind).2.2.1.toNat r.1.size,0),(aU r.1 kind kind).2.1)
noncomputable def x8:Env:=Env.of [(41,.dR nG)]
def GS:FuncId→Hint:=fun _=>bT
theorem IM:aM Tryz.prog x8:=.cons HB (.nil _)
def XL(y0:aD×Int×sV):List T:=[T.agg [T.v (.string y0.1.1),T.v (.int .i64 4)], T.v (.int .i64 0)]
def yM(a0:aD)(a1:Int)(a2:Int)(a3:Bool)(R:T→Prop):Prop:=aI (!decide (a0.2=0)) (R (T.aT [aE true aC a0,T.v (.int .i64 0)])) (aF f8 (nG [aE true aC a0,T.v (.int .i64 a1), T.v (.int .i64 a1)]) fun (y0:aD×Int×sV)=>aI (!decide (y0.2.2.2.2=0)) (aI (!decide (y0.2.2.2.2=0)) (R (T.aT [T.agg [T.v (.string y0.1.1),T.v (.int .i64 y0.2.2.2.2)], T.v (.int .i64 0)])) (M2 y0 R)) (aI (decide (a2<0)) (R (T.aT (XL y0))) (aI (decide (IntKind.u64.wrap a2<y0.2.2.1)) (R (T.aT (XL y0))) (aI a3 (aI (decide (IntKind.u64.wrap (IntKind.i64.wrap ((↑(ByteArray.size y0.1.1):Int)-y0.2.2.2.1)) < y0.2.2.1)) (R (T.aT [T.agg [T.v (.string y0.1.1),T.v (.int .i64 3)], T.v (.int .i64 0)])) (m0 y0 R)) (m0 y0 R)))))
theorem ED ( a0 a1 a2 a3 R):dN bD Tryz.prog x8 GS 8 241 [aE true aC a0,aE false (Sy.int IntKind.i64) a1,
 aE false (Sy.int IntKind.i64) a2,aE false Sy.bool a3] R=yM a0 a1 a2 a3 R:=by kernel_rfl
abbrev sC:Sh:=[(true,aC),(false,(Sy.int IntKind.i64)),(false,(Sy.int IntKind.i64)),(false,Sy.bool)]
abbrev rY:Sh:=[(true,aC),(false,Sy.int IntKind.i64)]
def lU (x:cC×Int×Int×Bool):Option T:=match decide (x.2.2.1<9223372036854775808)&&decide (x.1.1.size≤140737488355328) with
 | true=>some (Sh.enc rY (aJ x.1 x.2.1 x.2.2.1 x.2.2.2))
 | false=>none
noncomputable def iW:List T→Option (T):=gS sC lU
theorem FH {a0 a1 a2 a3}:iW [aE true aC a0,T.v (.int .i64 a1),
 T.v (.int .i64 a2),T.v (.bool a3)]=lU (a0,a1,a2,a3):=cI (s:=sC) rfl (a0,a1,a2,a3) rfl
theorem NQ (h:∀ a0 a1 a2 a3 r,lU (a0,a1,a2,a3)=some r→e6 sC (a0,a1,a2,a3)→yM a0 a1 a2 a3 (fun y=>y=r)):bN Tryz.prog 241 iW :=
 cJ (E:=x8) (Hs:=GS) IM bF bG (aX rfl) 8 ⟨_,_,Tryz.func241,rfl⟩ rfl fun x r h1 h2=>by
  obtain ⟨a0,a1,a2,a3⟩:=x
  rw[show Sh.dI sC (a0,a1,a2,a3)=[aE true aC a0,aE false (Sy.int IntKind.i64) a1,
 aE false (Sy.int IntKind.i64) a2,aE false Sy.bool a3] from rfl,ED]
  exact h a0 a1 a2 a3 r h1 h2
theorem B1:bN Tryz.prog 241 iW:=NQ fun a0 a1 a2 a3 r h hb=>by
 clear hb
 obtain ⟨hc,rfl⟩:=DM h
 clear h
 obtain ⟨s,e0⟩:=a0
 rw[Bool.and_eq_true,decide_eq_true_eq,decide_eq_true_eq] at hc
 obtain ⟨b1,b2⟩:=hc
 dsimp only at b1 b2
 unfold yM XL M2 m0 IO v6 f8
 dsimp only
 refine oC (fun h=>by unfold aJ;rw[if_pos h];rfl) fun h0=>?_
 refine aQ (s:=zY) (y:=((s,e0),aU s a1 a1)) (wZ ..) ?_
 have rd:aJ (s,e0) a1 a2 a3=(if ¬ (aU s a1 a1).2.2.2=0 then ((s,(aU s a1 a1).2.2.2),0)
  else if a2<0∨a2<(aU s a1 a1).2.1 then ((s,4),0)
  else if a3=true∧(s.size:Int)-(aU s a1 a1).2.2.1<(aU s a1 a1).2.1 then ((s,3),0)
  else ((s.extract (aU s a1 a1).2.2.1.toNat s.size,0),(aU s a1 a1).2.1)):=by
  unfold aJ;rw[if_neg (fun h=>h h0)]
 rw[rd]
 generalize hq:aU s a1 a1=q
 obtain ⟨k,v,n,e⟩:=q
 dsimp only
 refine oC (fun he=>?_) fun he=>?_
 ·rw[if_pos he]
  exact oC (fun _=>rfl) fun h=>absurd h he
 ·subst he
  obtain ⟨hk,⟨n1,n2⟩,v1,v2⟩:=iI hq
  rw[if_neg (fun h=>h rfl)]
  have cn:(decide (s.size≤s.size)&&(decide (0≤n)&&decide (n.toNat≤s.size)))=true:=by
   rw[decide_eq_true (Nat.le_refl _),decide_eq_true n1,decide_eq_true n2];rfl
  refine eQ (fun h=>?_) fun h1=>?_
  ·rw[if_pos (.inl h)];rfl
  rw[wrap_u64 (show 0≤a2 by omega) (by omega)]
  refine eQ (fun h=>?_) fun h2=>?_
  ·rw[if_pos (.inr h)];rfl
  rw[if_neg (fun h=>h.elim h1 h2)]
  have wv:IntKind.i64.wrap v=v:=bB _ (by omega) (by omega)
  have ws:IntKind.u64.wrap (IntKind.i64.wrap ((s.size:Int)-n))=(s.size:Int)-n:=by
   rw[bB _ (by omega) (by omega),wrap_u64 (by omega) (by omega)]
  refine S9 (fun hf=>?_) fun hf=>?_
  ·rw[ws]
   refine eQ (fun h=>?_) fun h3=>?_
   ·rw[if_pos ⟨hf,h⟩];rfl
   rw[if_neg (fun h=>h3 h.2)]
   refine oC (fun h=>absurd rfl h) fun _=>⟨cn,?_⟩
   rw[wv];rfl
  ·rw[if_neg (fun h=>by rw[hf] at h;cases h.1)]
   refine oC (fun h=>absurd rfl h) fun _=>⟨cn,?_⟩
   rw[wv];rfl
end Go.Pv
namespace Go.Pv
open Go Go.Proofs
noncomputable def sJ:Env:=Env.of [(241,.dR iW)]
def A8:FuncId→Hint:=fun _=>bT
theorem DY:aM Tryz.prog sJ:=.cons B1 (.nil _)
def d0:Sh:=[(true,aC),(false,Sy.int IntKind.i64)]
def sP(a0:aD)(a1:Int)(R:T→Prop):Prop:=aF d0 (iW [aE true aC a0,T.v (.int .i64 4), T.v (.int .i64 a1),T.v (.bool false)]) fun (y0:aD×Int)=>R (T.aT [aE true aC y0.1,T.v (.int .i64 y0.2)])
theorem AY ( a0 a1 R):dN bD Tryz.prog sJ A8 8 92 [aE true aC a0,aE false (Sy.int IntKind.i64) a1] R=sP a0 a1 R:=by kernel_rfl
abbrev oQ:Sh:=[(true,aC),(false,(Sy.int IntKind.i64))]
abbrev C1:Sh:=[(true,aC),(false,Sy.int IntKind.i64)]
noncomputable def sK:Env:=Env.of [(241,.dR iW)]
def BA:FuncId→Hint:=fun _=>bT
theorem DZ:aM Tryz.prog sK:=.cons B1 (.nil _)
def sQ(a0:aD)(a1:Int)(R:T→Prop):Prop:=aF d0 (iW [aE true aC a0,T.v (.int .i64 2), T.v (.int .i64 a1),T.v (.bool true)]) fun (y0:aD×Int)=>aI (decide (y0.2=0)) (R (T.aT [aE true aC y0.1,T.v (.string {data:=#[]})])) (bJ (decide (0≤y0.2)&&decide (Int.toNat y0.2≤ByteArray.size y0.1.1)&&true) (bJ (decide (ByteArray.size y0.1.1≤ByteArray.size y0.1.1) && (decide (0≤y0.2)&&decide (Int.toNat y0.2≤ByteArray.size y0.1.1))) (R (T.aT [T.agg [T.v (.string (ByteArray.extract y0.1.1 (Int.toNat y0.2) (ByteArray.size y0.1.1))), T.v (.int .i64 y0.1.2)], T.v (.string (ByteArray.extract y0.1.1 0 (Int.toNat y0.2)))]))))
theorem AZ ( a0 a1 R):dN bD Tryz.prog sK BA 8 89 [aE true aC a0,aE false (Sy.int IntKind.i64) a1] R=sQ a0 a1 R:=by kernel_rfl
abbrev oR:Sh:=[(true,aC),(false,(Sy.int IntKind.i64))]
abbrev C2:Sh:=[(true,aC),(false,Sy.str)]
def KJ (r:cC) (most:Int):Bool:=decide (most<9223372036854775808)&&decide (r.1.size≤140737488355328)
theorem C3 {r:cC} {k most:Int} {f:Bool} (h:KJ r most=true):iW [aE true aC r,T.v (.int .i64 k),T.v (.int .i64 most),T.v (.bool f)]=some (Sh.enc rY (aJ r k most f)):=by
 refine FH.trans (b:=lU (r,k,most,f)) ?_
 unfold lU
 unfold KJ at h
 dsimp only
 rw[h]
def mE (x:cC×Int):Option T:=match KJ x.1 x.2 with
 | true=>some (Sh.enc C1 (aJ x.1 4 x.2 false))
 | false=>none
noncomputable def eT:List T→Option (T):=gS oQ mE
theorem CD {a0 a1}:eT [aE true aC a0,T.v (.int .i64 a1)]=mE (a0,a1):=cI (s:=oQ) rfl (a0,a1) rfl
theorem KE (h:∀ a0 a1 r,mE (a0,a1)=some r→e6 oQ (a0,a1)→sP a0 a1 (fun y=>y=r)):bN Tryz.prog 92 eT :=
 cJ (E:=sJ) (Hs:=A8) DY bF bG (aX rfl) 8 ⟨_,_,Tryz.func92,rfl⟩ rfl fun x r h1 h2=>by
  obtain ⟨a0,a1⟩:=x
  rw[show Sh.dI oQ (a0,a1)=[aE true aC a0,aE false (Sy.int IntKind.i64) a1] from rfl,AY]
  exact h a0 a1 r h1 h2
theorem RW {r:cC} {k most:Int} (h:¬ (aJ r k most true).2=0):0≤(aJ r k most true).2∧(aJ r k most true).2.toNat≤(aJ r k most true).1.1.size:=by
 unfold aJ at h ⊢
 generalize hq:aU r.1 k k=q at h ⊢
 obtain ⟨a,v,n,e⟩:=q
 dsimp only at h ⊢
 split at h
 ·exact absurd rfl h
 rename_i c1
 rw[if_neg c1]
 split at h
 ·exact absurd rfl h
 rename_i c2
 rw[if_neg c2]
 split at h
 ·exact absurd rfl h
 rename_i c3
 rw[if_neg c3]
 split at h
 ·exact absurd rfl h
 rename_i c4
 rw[if_neg c4]
 have he:e=0:=Classical.byContradiction c2
 subst he
 obtain ⟨_,⟨n1,n2⟩,v1,v2⟩:=iI hq
 have c5:¬ ((r.1.size:Int)-n<v):=fun g=>c4 ⟨rfl,g⟩
 refine ⟨v1,?_⟩
 rw[ByteArray.size_extract]
 omega
def dS (r:ByteArray×Int) (most:Int):(ByteArray×Int)×ByteArray :=
 if (aJ r 2 most true).2=0 then ((aJ r 2 most true).1,⟨#[]⟩)
 else (((aJ r 2 most true).1.1.extract (aJ r 2 most true).2.toNat (aJ r 2 most true).1.1.size,(aJ r 2 most true).1.2),(aJ r 2 most true).1.1.extract 0 (aJ r 2 most true).2.toNat)
def mF (x:cC×Int):Option T:=match KJ x.1 x.2 with
 | true=>some (Sh.enc C2 (dS x.1 x.2))
 | false=>none
noncomputable def bP:List T→Option (T):=gS oR mF
theorem CE {a0 a1}:bP [aE true aC a0,T.v (.int .i64 a1)]=mF (a0,a1):=cI (s:=oR) rfl (a0,a1) rfl
theorem KF (h:∀ a0 a1 r,mF (a0,a1)=some r→e6 oR (a0,a1)→sQ a0 a1 (fun y=>y=r)):bN Tryz.prog 89 bP :=
 cJ (E:=sK) (Hs:=BA) DZ bF bG (aX rfl) 8 ⟨_,_,Tryz.func89,rfl⟩ rfl fun x r h1 h2=>by
  obtain ⟨a0,a1⟩:=x
  rw[show Sh.dI oR (a0,a1)=[aE true aC a0,aE false (Sy.int IntKind.i64) a1] from rfl,AZ]
  exact h a0 a1 r h1 h2
theorem pN:bN Tryz.prog 89 bP:=KF fun a0 a1 r h hb=>by
 clear hb
 obtain ⟨hc,rfl⟩:=DM h
 unfold sQ d0
 refine aQ (s:=rY) (y:=aJ a0 2 a1 true) (C3 hc) ?_
 dsimp only
 refine eQ (fun h=>?_) fun h=>?_
 ·unfold dS;rw[if_pos h];rfl
 ·obtain ⟨h1,h2⟩:=RW h
  refine ⟨by rw[decide_eq_true h1,decide_eq_true h2];rfl,by rw[decide_eq_true (Nat.le_refl _),decide_eq_true h1,decide_eq_true h2];rfl,?_⟩
  unfold dS;rw[if_neg h];rfl
theorem pM:bN Tryz.prog 92 eT:=KE fun a0 a1 r h hb=>by
 clear hb
 obtain ⟨hc,rfl⟩:=DM h
 unfold sP d0
 exact aQ (s:=rY) (y:=aJ a0 4 a1 false) (C3 hc) rfl
end Go.Pv
namespace Go.Pv
open Go Go.Proofs
abbrev cB:=ByteArray×Int
theorem wH {s t:ByteArray} (h:s.data.toList=t.data.toList):s=t:=by
 cases s;cases t
 exact congrArg _ (Array.toList_inj.1 h)
theorem iC (s:ByteArray) (n:Nat):(s.extract n s.size).data.toList=s.data.toList.drop n:=by
 rw[ByteArray.data_extract,Array.toList_extract,List.extract_eq_take_drop]
 exact List.take_of_length_le (by rw[List.length_drop];exact Nat.le_refl _)
theorem G8 (s:ByteArray):s.extract 0 s.size=s:=wH (by rw[iC];rfl)
theorem n4 (s:ByteArray) (n m:Nat):(s.extract n s.size).extract m (s.extract n s.size).size=s.extract (n+m) s.size:=wH (by rw[iC,iC,iC,List.drop_drop])
def Tl (a b:cB):Prop:=∃ n,a.1=b.1.extract n b.1.size
theorem Tl.same {a b:cB} (h:a.1=b.1):Tl a b:=⟨0,by rw[h,G8]⟩
theorem Tl.trans {a b c:cB} (h1:Tl a b) (h2:Tl b c):Tl a c:=by
 obtain ⟨n,h1⟩:=h1
 obtain ⟨m,h2⟩:=h2
 exact ⟨m+n,by rw[h1,h2,n4]⟩
theorem Tl.size {a b:cB} (h:Tl a b):a.1.size≤b.1.size:=by
 obtain ⟨n,h⟩:=h
 rw[h,ByteArray.size_extract];omega
def RO (S:ByteArray) (r:cB):Prop:=r.1=S.extract (S.size-r.1.size) S.size∧r.1.size≤S.size
theorem RO.all {S:ByteArray} {e:Int}:RO S (S,e):=⟨by show S=S.extract (S.size-S.size) S.size;rw[Nat.sub_self,G8],Nat.le_refl _⟩
theorem RO.tl {S:ByteArray} {a b:cB} (h:RO S b) (ht:Tl a b):RO S a:=by
 obtain ⟨n,ht⟩:=ht
 obtain ⟨h1,h2⟩:=h
 have hz:a.1.size=b.1.size-n:=by rw[ht,ByteArray.size_extract];omega
 have e:a.1=S.extract (S.size-b.1.size+n) S.size:=by
  rw[ht]
  conv=>lhs;rw[h1]
  exact n4 _ _ _
 refine ⟨?_,by omega⟩
 by_cases hn:n≤b.1.size
 ·rw[show S.size-a.1.size=S.size-b.1.size+n by omega];exact e
 ·have:a.1.size=0:=by omega
  refine wH ?_
  rw[iC,List.drop_eq_nil_of_le (by show S.size≤_;omega)]
  exact List.length_eq_zero_iff.1 this
def dW {α:Type} (f:cB→cB×α):Prop:=∀ r,Tl (f r).1 r
theorem C5 (lo hi:Int):dW fun r=>dE r lo hi:=fun r=>by
 show Tl (dE r lo hi).1 r
 unfold dE
 split
 ·exact .same rfl
 split
 ·exact .same rfl
 split
 ·exact .same rfl
 dsimp only
 repeat' split
 all_goals first|exact .same rfl|exact ⟨_,rfl⟩
theorem lM (k most:Int) (f:Bool):dW fun r=>aJ r k most f:=fun r=>by
 show Tl (aJ r k most f).1 r
 unfold aJ
 split
 ·exact .same rfl
 split
 ·exact .same rfl
 split
 ·exact .same rfl
 split
 ·exact .same rfl
 ·exact ⟨_,rfl⟩
theorem KQ (most:Int):dW fun r=>dS r most:=fun r=>by
 show Tl (dS r most).1 r
 unfold dS
 split
 ·exact lM 2 most true r
 ·exact Tl.trans ⟨_,rfl⟩ (lM 2 most true r)
def cP {α:Type} (f:cB→cB×α):Nat→cB→cB×List α
 | 0,r=>(r,[])
 | k+1,r=>((f (cP f k r).1).1,(cP f k r).2++[(f (cP f k r).1).2])
theorem eX {α:Type} {f:cB→cB×α} (hf:dW f):∀ k,dW (cP f k)
 | 0,r=>.same rfl
 | k+1,r=>(hf _).trans (eX hf k r)
theorem gC {α:Type} {f:cB→cB×α}:∀ k r,(cP f k r).2.length=k
 | 0,r=>rfl
 | k+1,r=>by
  show ((cP f k r).2++[_]).length=k+1
  rw[List.length_append,gC k r];rfl
def bU {α β:Type} (f:cB→cB×α) (g:cB→cB×β) (r:cB):cB×(α×β):=((g (f r).1).1,((f r).2,(g (f r).1).2))
theorem bA {α β:Type} {f:cB→cB×α} {g:cB→cB×β} (hf:dW f) (hg:dW g):dW (bU f g):=fun r=>(hg _).trans (hf r)
def CL {α:Type} (most:Int) (f:cB→cB×α) (r:cB):cB×List α:=cP f (aJ r 4 most false).2.toNat (aJ r 4 most false).1
theorem uO {α:Type} {most:Int} {f:cB→cB×α} (hf:dW f):dW (CL most f):=fun r=>(eX hf _ _).trans (lM 4 most false r)
def QC {α:Type} (z:α) (f:cB→cB×α) (r:cB):cB×α:=if (f r).1.2=0 then f r else ((f r).1,z)
theorem NT {α:Type} {z:α} {f:cB→cB×α} (hf:dW f):dW (QC z f):=fun r=>by
 show Tl (QC z f r).1 r
 unfold QC
 split<;>exact hf r
theorem pG {r:cB} {k most:Int} {f:Bool} (hm:0≤most):0≤(aJ r k most f).2∧(aJ r k most f).2≤most:=by
 unfold aJ
 generalize hq:aU r.1 k k=q
 obtain ⟨a,v,n,e⟩:=q
 dsimp only
 split
 ·exact ⟨Int.le_refl 0,hm⟩
 split
 ·exact ⟨Int.le_refl 0,hm⟩
 rename_i c2
 split
 ·exact ⟨Int.le_refl 0,hm⟩
 rename_i c3
 split
 ·exact ⟨Int.le_refl 0,hm⟩
 have he:e=0:=Classical.byContradiction c2
 subst he
 obtain ⟨_,_,v1,v2⟩:=iI hq
 exact ⟨v1,by show v≤most;omega⟩
def rI (r:cB):cB×Int:=dE r (-9223372036854775808) 9223372036854775807
def rT (n:Int) (r:cB):cB×ByteArray:=dS r n
theorem fF:dW rI:=C5 _ _
theorem fG (n:Int):dW (rT n):=KQ n
def K1:cB→cB×aV:=bU rI rI
def gB:cB→cB×List aV:=CL 32 K1
def F4:cB→cB×List (List aV):=CL 8 gB
def N8:cB→cB×sV:=bU rI (bU rI rI)
def fM (n:Int):cB→cB×List ByteArray:=CL n (rT 64)
def AO:fR:=(⟨#[]⟩,0,0,⟨#[]⟩,⟨#[]⟩,0,([],[]),⟨#[]⟩,0,0,(0,0,0),(0,0,0),0)
def nM:cB→cB×fR:=bU (rT 64) (bU rI (bU rI (bU (rT 64) (bU (rT 16) (bU rI (bU (bU gB F4) (bU (rT 16) (bU rI (bU rI (bU N8 (bU N8 rI)))))))))))
def fU:cB→cB×fR:=QC AO nM
def RB:cB→cB×QQ:=bU (rT 64) (bU rI (rT 64))
def RD:cB→cB×QR:=bU (rT 64) (bU (rT 64) (bU (rT 64) (bU rI (bU rI rI))))
def RC:cB→cB×jQ:=bU (rT 64) (bU (rT 64) (bU (fM 256) (bU rI (fM 64))))
def RA:cB→cB×QP:=bU rI (bU (rT 64) (rT 64))
def p5:kQ:=(0,⟨#[]⟩,⟨#[]⟩,(⟨#[]⟩,0,⟨#[]⟩),AO,(⟨#[]⟩,⟨#[]⟩,⟨#[]⟩,0,0,0),(⟨#[]⟩,⟨#[]⟩,[],0,[]),(0,⟨#[]⟩,⟨#[]⟩))
def pW:cB→cB×kQ:=bU rI (bU (rT 64) (bU (rT 64) (bU RB (bU fU (bU RD (bU RC RA))))))
def gK:cB→cB×kQ:=QC p5 pW
theorem F6:dW K1:=bA fF fF
theorem jC:dW gB:=uO F6
theorem KO:dW F4:=uO jC
theorem HZ:dW N8:=bA fF (bA fF fF)
theorem l9 (n:Int):dW (fM n):=uO (fG 64)
theorem u4:dW fU:=NT (bA (fG _) (bA fF (bA fF (bA (fG _) (bA (fG _) (bA fF (bA (bA jC KO) (bA (fG _) (bA fF (bA fF (bA HZ (bA HZ fF))))))))))))
theorem N4:dW RB:=bA (fG _) (bA fF (fG _))
theorem N7:dW RD:=bA (fG _) (bA (fG _) (bA (fG _) (bA fF (bA fF fF))))
theorem N5:dW RC:=bA (fG _) (bA (fG _) (bA (l9 _) (bA fF (l9 _))))
theorem N3:dW RA:=bA fF (bA (fG _) (fG _))
theorem N1:dW gK:=NT (bA fF (bA (fG _) (bA (fG _) (bA N4 (bA u4 (bA N7 (bA N5 N3)))))))
end Go.Pv
namespace Go.Pv
open Go Go.Proofs
noncomputable def sG:Env:=Env.of [(92,.dR eT),(14,.dR bH)]
def A4:FuncId→Hint:=gJ 91 [(3,.inv [.box 0 jG,.own 3 2 aH,.val 7 false (.int .i64)])] (fun _=>bT)
theorem DV:aM Tryz.prog sG:=.cons pM (.cons n5 (.nil _))
def W6(y3:aD×Int):List T:=[aE true aC y3.1,T.v (.int .i64 (-9223372036854775808)), T.v (.int .i64 9223372036854775807)]
def sM(a0:aD)(R:T→Prop):Prop:=aF d0 (eT [aE true aC a0,T.v (.int .i64 32)]) fun (y0:aD×Int)=>eU (aD×List aV×Int×PUnit) (fun X1 s2=>aI (decide (s2.2.2.1<y0.2)) (aF d0 (bH [aE true aC s2.1,T.v (.int .i64 (-9223372036854775808)), T.v (.int .i64 9223372036854775807)]) fun (y3:aD×Int)=>aF d0 (bH (W6 y3)) fun (y4:aD×Int)=>bJ (decide (((List.map aH.enc s2.2.1).length+1)*16≤140737488355328) && decide ((List.map aH.enc s2.2.1).length+1≤140737488355328)) (gR aH (List.map aH.enc s2.2.1 ++ [[T.v (.int .i64 y3.2),T.v (.int .i64 y4.2)]]) fun (y5:List aV)=>X1 ((y4.1.1,y4.1.2),y5,IntKind.i64.wrap (s2.2.2.1+1),()))) (R (T.aT [aE true aC s2.1,T.sl false (List.map aH.enc s2.2.1)]))) ((y0.1.1,y0.1.2),[],0,())
theorem AU ( a0 R):dN bD Tryz.prog sG A4 8 91 [aE true aC a0] R=sM a0 R:=by kernel_rfl
abbrev oN:Sh:=[(true,aC)]
abbrev CZ:Sh:=[(true,aC),(false,aH.li)]
noncomputable def x7:Env:=Env.of [(92,.dR eT),(89,.dR bP)]
def GR:FuncId→Hint:=gJ 47 [(2,.inv [.box 0 jG,.own 4 1 .str,.val 8 false (.int .i64)])] (fun _=>bT)
theorem IL:aM Tryz.prog x7:=.cons pM (.cons pN (.nil _))
def d9:Sh:=[(true,aC),(false,Sy.str)]
def yL(a0:aD)(a1:Int)(R:T→Prop):Prop:=aF d0 (eT [aE true aC a0,T.v (.int .i64 a1)]) fun (y0:aD×Int)=>eU (aD×List ByteArray×Int×PUnit) (fun X1 s2=>aI (decide (s2.2.2.1<y0.2)) (aF d9 (bP [aE true aC s2.1,T.v (.int .i64 64)]) fun (y3:aD×ByteArray)=>bJ (decide (((List.map Sy.str.enc s2.2.1).length+1)*16≤140737488355328) && decide ((List.map Sy.str.enc s2.2.1).length+1≤140737488355328)) (gR Sy.str (List.map Sy.str.enc s2.2.1++[[T.v (.string y3.2)]]) fun (y4:List ByteArray)=>X1 ((y3.1.1,y3.1.2),y4,IntKind.i64.wrap (s2.2.2.1+1),()))) (R (T.aT [aE true aC s2.1,T.sl false (List.map Sy.str.enc s2.2.1)]))) ((y0.1.1,y0.1.2),[],0,())
theorem EC ( a0 a1 R):dN bD Tryz.prog x7 GR 8 47 [aE true aC a0,aE false (Sy.int IntKind.i64) a1] R=yL a0 a1 R:=by kernel_rfl
abbrev sB:Sh:=[(true,aC),(false,(Sy.int IntKind.i64))]
abbrev H7:Sh:=[(true,aC),(false,Sy.str.li)]
def vN (r:cB):Bool:=decide (r.1.size≤140737488355328)
theorem jM {a b:cB} (h:vN b=true) (ht:Tl a b):vN a=true:=decide_eq_true (Nat.le_trans ht.size (of_decide_eq_true h))
theorem cH {r:cB} {K:cB×Int→Prop} (h:vN r=true) (hk:vN (rI r).1=true→K (rI r)):aF [(true,aC),(false,.int .i64)] (bH [aE true aC r,T.v (.int .i64 (-9223372036854775808)),T.v (.int .i64 9223372036854775807)]) K:=aQ (s:=rZ) (y:=rI r) (uB ..) (hk (jM h (fF r)))
theorem HT {r:cB} {n:Int} (hn:n<9223372036854775808) (h:vN r=true):KJ r n=true:=by unfold KJ;rw[decide_eq_true hn,Bool.true_and];exact h
theorem dH {r:cB} {n:Int} (hn:n<9223372036854775808) {K:cB×ByteArray→Prop} (h:vN r=true) (hk:vN (rT n r).1=true→K (rT n r)):aF [(true,aC),(false,.str)] (bP [aE true aC r,T.v (.int .i64 n)]) K :=
 aQ (s:=C2) (y:=rT n r) ((CE ..).trans (by unfold mF;dsimp only;rw[HT hn h];rfl)) (hk (jM h (fG n r)))
theorem zX {r:cB} {n:Int} (hn:n<9223372036854775808) {K:cB×Int→Prop} (h:vN r=true) (hk:vN (aJ r 4 n false).1=true→K (aJ r 4 n false)):aF [(true,aC),(false,.int .i64)] (eT [aE true aC r,T.v (.int .i64 n)]) K :=
 aQ (s:=C1) (y:=aJ r 4 n false) ((CD ..).trans (by unfold mE;dsimp only;rw[HT hn h])) (hk (jM h (lM 4 n false r)))
def mC (x:cC):Option T:=match vN x with
 | true=>some (Sh.enc CZ (gB x))
 | false=>none
noncomputable def gI:List T→Option (T):=gS oN mC
theorem CB {a0}:gI [aE true aC a0]=mC (a0):=cI (s:=oN) rfl (a0) rfl
theorem KA (h:∀ a0 r,mC (a0)=some r→e6 oN (a0)→sM a0 (fun y=>y=r)):bN Tryz.prog 91 gI :=
 cJ (E:=sG) (Hs:=A4) DV bF bG (aX rfl) 8 ⟨_,_,Tryz.func91,rfl⟩ rfl fun x r h1 h2=>by
  let a0:=x
  rw[show Sh.dI oN (a0)=[aE true aC a0] from rfl,AU]
  exact h a0 r h1 h2
theorem cN {r:Sy} (hr:r.pure=true) {l:List r.den} {rows:List (List T)} {K:List r.den→Prop} (e:rows=List.map r.enc l) (h:K l):gR r rows K:=by subst e;rw[BV hr];exact h
theorem wJ {A:Prop} (h:A):G0 A A:=⟨h,h⟩
theorem hM {z n k:Nat} (hz:z≤1000) (hn:n=k) (hk:k<1000):(decide ((n+1)*z≤140737488355328)&&decide (n+1≤140737488355328))=true:=by
 subst hn
 have:(n+1)*z≤1000*1000:=Nat.mul_le_mul (by omega) hz
 rw[Bool.and_eq_true]
 exact ⟨decide_eq_true (by omega),decide_eq_true (by omega)⟩
theorem zN {k:Nat} (h:k<1000000):IntKind.i64.wrap ((k:Int)+1)=((k+1:Nat):Int):=bB _ (by omega) (by omega)
theorem JI:bN Tryz.prog 91 gI:=KA fun a0 r h hb=>by
 clear hb
 obtain ⟨hc,rfl⟩:=DM h
 unfold sM W6 d0
 refine zX (by decide) hc fun hc1=>?_
 have cb:=pG (r:=a0) (k:=4) (most:=32) (f:=false) (by decide)
 refine dY (aJ a0 4 32 false).2.toNat (fun k s=>s=((cP K1 k (aJ a0 4 32 false).1).1,(cP K1 k (aJ a0 4 32 false).1).2,(k:Int),())) rfl ?_
 rintro X k s hk rfl hX
 dsimp only
 refine eQ (fun hlt=>?_) fun hge=>?_
 ·refine cH (jM hc1 (eX F6 _ _)) fun h1=>cH h1 fun h2=>⟨hM (by decide) (by rw[List.length_map,gC]) (by omega),cN (r:=aH) rfl (l:=(cP K1 k (aJ a0 4 32 false).1).2++[((rI (cP K1 k (aJ a0 4 32 false).1).1).2,(rI (rI (cP K1 k (aJ a0 4 32 false).1).1).1).2)]) (by rw[List.map_append];rfl) ?_⟩
  exact hX _ (by omega) (by rw[zN (by omega)];rfl)
 ·have:k=(aJ a0 4 32 false).2.toNat:=by omega
  subst this
  rfl
def o0 (x:cC×Int):Option T:=match vN x.1&&(decide (0≤x.2)&&decide (x.2≤300)) with
 | true=>some (Sh.enc H7 (fM x.2 x.1))
 | false=>none
noncomputable def kE:List T→Option (T):=gS sB o0
theorem FG {a0 a1}:kE [aE true aC a0,T.v (.int .i64 a1)]=o0 (a0,a1):=cI (s:=sB) rfl (a0,a1) rfl
theorem NP (h:∀ a0 a1 r,o0 (a0,a1)=some r→e6 sB (a0,a1)→yL a0 a1 (fun y=>y=r)):bN Tryz.prog 47 kE :=
 cJ (E:=x7) (Hs:=GR) IL bF bG (aX rfl) 8 ⟨_,_,Tryz.func47,rfl⟩ rfl fun x r h1 h2=>by
  obtain ⟨a0,a1⟩:=x
  rw[show Sh.dI sB (a0,a1)=[aE true aC a0,aE false (Sy.int IntKind.i64) a1] from rfl,EC]
  exact h a0 a1 r h1 h2
theorem MG:bN Tryz.prog 47 kE:=NP fun a0 n r h hb=>by
 clear hb
 obtain ⟨hc,rfl⟩:=DM h
 rw[Bool.and_eq_true,Bool.and_eq_true,decide_eq_true_eq,decide_eq_true_eq] at hc
 obtain ⟨hc,hn0,hn1⟩:=hc
 dsimp only at hc hn0 hn1
 unfold yL d9 d0
 refine zX (by omega) hc fun hc1=>?_
 have cb:=pG (r:=a0) (k:=4) (most:=n) (f:=false) hn0
 refine dY (aJ a0 4 n false).2.toNat (fun k s=>s=((cP (rT 64) k (aJ a0 4 n false).1).1,(cP (rT 64) k (aJ a0 4 n false).1).2,(k:Int),())) rfl ?_
 rintro X k s hk rfl hX
 dsimp only
 refine eQ (fun hlt=>?_) fun hge=>?_
 ·refine dH (by decide) (jM hc1 (eX (fG 64) _ _)) fun _=>⟨hM (by decide) (by rw[List.length_map,gC]) (by omega),cN (r:=.str) rfl (l:=(cP (rT 64) k (aJ a0 4 n false).1).2++[(rT 64 (cP (rT 64) k (aJ a0 4 n false).1).1).2]) (by rw[List.map_append];rfl) ?_⟩
  exact hX _ (by omega) (by rw[zN (by omega)];rfl)
 ·have:k=(aJ a0 4 n false).2.toNat:=by omega
  subst this
  rfl
noncomputable def sI:Env:=Env.of [(92,.dR eT),(14,.dR bH),(89,.dR bP),(91,.dR gI)]
def A7:FuncId→Hint:=gJ 46 [(10,.inv [.box 0 jG,.box 2 gP,.pC 2 7 1 (.li aH),.val 28 false (.int .i64)])] (fun _=>bT)
theorem DX:aM Tryz.prog sI:=.cons pM (.cons n5 (.cons pN (.cons JI (.nil _))))
def d8:List T:=[T.v (.string {data:=#[]}), T.v (.int .i64 0), T.v (.int .i64 0), T.v (.string {data:=#[]}), T.v (.string {data:=#[]}), T.v (.int .i64 0), T.sl false [],T.sl false [], T.v (.string {data:=#[]}), T.v (.int .i64 0), T.v (.int .i64 0), T.v (.int .i64 0), T.v (.int .i64 0), T.v (.int .i64 0), T.v (.int .i64 0), T.v (.int .i64 0), T.v (.int .i64 0), T.v (.int .i64 0)]
def g9:Sh:=[(true,aC),(false,aH.li)]
def t6(s11:aD×fR×List (List aV)×Int×PUnit)(X10:aD×fR×List (List aV)×Int×PUnit→Prop):Prop:=aF g9 (gI [aE true aC s11.1]) fun (y12:aD×List aV)=>bJ (decide (((List.map aH.li.enc s11.2.2.1).length+1)*24 ≤ 140737488355328) && decide ((List.map aH.li.enc s11.2.2.1).length+1≤140737488355328)) (gR aH (List.map aH.enc s11.2.1.2.2.2.2.2.2.1.1) fun (y13:List aV)=>gR aH.li [] fun (y14:List (List aV))=>gR aH.li (List.map aH.li.enc s11.2.2.1 ++ [[T.sl false (List.map aH.enc y12.2)]]) fun (y15:List (List aV))=>X10 ((y12.1.1,y12.1.2), (s11.2.1.1,s11.2.1.2.1,s11.2.1.2.2.1, s11.2.1.2.2.2.1,s11.2.1.2.2.2.2.1, s11.2.1.2.2.2.2.2.1,(y13,y14), s11.2.1.2.2.2.2.2.2.2.1, s11.2.1.2.2.2.2.2.2.2.2.1, s11.2.1.2.2.2.2.2.2.2.2.2.1, (s11.2.1.2.2.2.2.2.2.2.2.2.2.1.1, s11.2.1.2.2.2.2.2.2.2.2.2.2.1.2.1, s11.2.1.2.2.2.2.2.2.2.2.2.2.1.2.2), (s11.2.1.2.2.2.2.2.2.2.2.2.2.2.1.1, s11.2.1.2.2.2.2.2.2.2.2.2.2.2.1.2.1, s11.2.1.2.2.2.2.2.2.2.2.2.2.2.1.2.2), s11.2.1.2.2.2.2.2.2.2.2.2.2.2.2), y15,IntKind.i64.wrap (s11.2.2.2.1+1),()))
def t7(y21:aD×Int):List T:=[aE true aC y21.1, T.v (.int .i64 (-9223372036854775808)), T.v (.int .i64 9223372036854775807)]
def UV(y0:aD×ByteArray):List T:=[aE true aC y0.1,T.v (.int .i64 (-9223372036854775808)), T.v (.int .i64 9223372036854775807)]
def W3(y2:aD×Int):List T:=[aE true aC y2.1,T.v (.int .i64 64)]
def W9(y20:aD×ByteArray):List T:=[aE true aC y20.1, T.v (.int .i64 (-9223372036854775808)), T.v (.int .i64 9223372036854775807)]
def sO(a0:aD)(R:T→Prop):Prop:=aF d9 (bP [aE true aC a0,T.v (.int .i64 64)]) fun (y0:aD×ByteArray)=>aF d0 (bH (UV y0)) fun (y1:aD×Int)=>aF d0 (bH (W6 y1)) fun (y2:aD×Int)=>aF d9 (bP (W3 y2)) fun (y3:aD×ByteArray)=>aF d9 (bP [aE true aC y3.1,T.v (.int .i64 16)]) fun (y4:aD×ByteArray)=>aF d0 (bH (UV y4)) fun (y5:aD×Int)=>aF g9 (gI [aE true aC y5.1]) fun (y6:aD×List aV)=>aF d0 (eT [aE true aC y6.1,T.v (.int .i64 8)]) fun (y7:aD×Int)=>gR aH (List.map aH.enc y6.2) fun (y8:List aV)=>gR aH.li [] fun (y9:List (List aV))=>eU (aD×fR×List (List aV)×Int×PUnit) (fun X10 s11=>aI (decide (s11.2.2.2.1<y7.2)) (G0 (t6 s11 X10) (t6 s11 X10)) (aF d9 (bP [aE true aC s11.1,T.v (.int .i64 16)]) fun (y20:aD×ByteArray)=>aF d0 (bH (W9 y20)) fun (y21:aD×Int)=>aF d0 (bH (t7 y21)) fun (y22:aD×Int)=>aF d0 (bH (t7 y22)) fun (y23:aD×Int)=>aF d0 (bH (t7 y23)) fun (y24:aD×Int)=>aF d0 (bH (t7 y24)) fun (y25:aD×Int)=>aF d0 (bH (t7 y25)) fun (y26:aD×Int)=>aF d0 (bH (t7 y26)) fun (y27:aD×Int)=>aF d0 (bH (t7 y27)) fun (y28:aD×Int)=>aF d0 (bH (t7 y28)) fun (y29:aD×Int)=>aI (!decide (y29.1.2=0)) (R (T.aT [aE true aC y29.1, T.agg d8])) (R (T.aT [aE true aC y29.1, T.agg [T.v (.string s11.2.1.1), T.v (.int .i64 s11.2.1.2.1), T.v (.int .i64 s11.2.1.2.2.1), T.v (.string s11.2.1.2.2.2.1), T.v (.string s11.2.1.2.2.2.2.1), T.v (.int .i64 s11.2.1.2.2.2.2.2.1), T.sl false (List.map aH.enc s11.2.1.2.2.2.2.2.2.1.1), T.sl false (List.map aH.li.enc s11.2.2.1), T.v (.string y20.2), T.v (.int .i64 y21.2), T.v (.int .i64 y22.2), T.v (.int .i64 y23.2), T.v (.int .i64 y24.2), T.v (.int .i64 y25.2), T.v (.int .i64 y26.2), T.v (.int .i64 y27.2), T.v (.int .i64 y28.2), T.v (.int .i64 y29.2)]])))) ((y7.1.1,y7.1.2), (y0.2,y1.2,y2.2,y3.2,y4.2,y5.2,(y8,y9),{data:=#[]},0,0,(0,0,0), (0,0,0),0), [],0,())
theorem AX ( a0 R):dN bD Tryz.prog sI A7 8 46 [aE true aC a0] R=sO a0 R:=by kernel_rfl
abbrev oP:Sh:=[(true,aC)]
abbrev C0:Sh:=[(true,aC),(true,gP)]
theorem HY {r:cB} {K:cB×List aV→Prop} (h:vN r=true) (hk:vN (gB r).1=true→K (gB r)):aF [(true,aC),(false,aH.li)] (gI [aE true aC r]) K :=
 aQ (s:=CZ) (y:=gB r) ((CB ..).trans (by unfold mC;rw[h])) (hk (jM h (jC r)))
def mD (x:cC):Option T:=match vN x with
 | true=>some (Sh.enc C0 (fU x))
 | false=>none
noncomputable def jU:List T→Option (T):=gS oP mD
theorem CC {a0}:jU [aE true aC a0]=mD (a0):=cI (s:=oP) rfl (a0) rfl
theorem KC (h:∀ a0 r,mD (a0)=some r→e6 oP (a0)→sO a0 (fun y=>y=r)):bN Tryz.prog 46 jU :=
 cJ (E:=sI) (Hs:=A7) DX bF bG (aX rfl) 8 ⟨_,_,Tryz.func46,rfl⟩ rfl fun x r h1 h2=>by
  let a0:=x
  rw[show Sh.dI oP (a0)=[aE true aC a0] from rfl,AX]
  exact h a0 r h1 h2
def xH:cB→cB×(List (List aV)×ByteArray×Int×Int×sV×sV×Int):=bU F4 (bU (rT 16) (bU rI (bU rI (bU N8 (bU N8 rI)))))
theorem JK:bN Tryz.prog 46 jU:=KC fun a0 r h hb=>by
 clear hb
 obtain ⟨hc,rfl⟩:=DM h
 unfold sO W9 W6 W3 UV t7 t6 g9 d9 d8 d0
 refine dH (by decide) hc fun h=>cH h fun h=>cH h fun h=>dH (by decide) h fun h=>dH (by decide) h fun h=>cH h fun h=>HY h fun h=>zX (by decide) h fun hc1=>?_
 clear h
 refine cN (r:=aH) rfl rfl (cN (r:=aH.li) (l:=[]) rfl rfl ?_)
 generalize hH:bU (rT 64) (bU rI (bU rI (bU (rT 64) (bU (rT 16) (bU rI gB))))) a0=H
 have e0:nM a0=((xH H.1).1,(H.2.1,H.2.2.1,H.2.2.2.1,H.2.2.2.2.1,H.2.2.2.2.2.1,H.2.2.2.2.2.2.1,(H.2.2.2.2.2.2.2,(xH H.1).2.1),(xH H.1).2.2)):=by rw[←hH];rfl
 have cb:=pG (r:=H.1) (k:=4) (most:=8) (f:=false) (by decide)
 have hc1:vN (aJ H.1 4 8 false).1=true:=by rw[←hH];exact hc1
 refine dY (aJ H.1 4 8 false).2.toNat (fun k s=>s=((cP gB k (aJ H.1 4 8 false).1).1,(H.2.1,H.2.2.1,H.2.2.2.1,H.2.2.2.2.1,H.2.2.2.2.2.1,H.2.2.2.2.2.2.1,(H.2.2.2.2.2.2.2,[]),⟨#[]⟩,0,0,(0,0,0),(0,0,0),0),(cP gB k (aJ H.1 4 8 false).1).2,(k:Int),())) (by rw[←hH];rfl) ?_
 rintro X k s hk rfl hX
 dsimp only
 have hn:(aJ (bU (rT 64) (bU rI (bU rI (bU (rT 64) (bU (rT 16) (bU rI gB))))) a0).1 4 8 false).2=(aJ H.1 4 8 false).2:=by rw[hH]
 refine eQ (fun hlt=>?_) fun hge=>?_
 ·have hlt:(k:Int)<(aJ H.1 4 8 false).2:=by rw[←hn];exact hlt
  refine wJ (HY (jM hc1 (eX jC _ _)) fun _=>⟨hM (by decide) (by rw[List.length_map,gC]) (by omega),cN (r:=aH) rfl rfl (cN (r:=aH.li) (l:=[]) rfl rfl (cN (r:=aH.li) rfl (l:=(cP gB k (aJ H.1 4 8 false).1).2++[(gB (cP gB k (aJ H.1 4 8 false).1).1).2]) (by rw[List.map_append];rfl) ?_))⟩)
  exact hX _ (by omega) (by rw[zN (by omega)];rfl)
 ·have hge:¬ (k:Int)<(aJ H.1 4 8 false).2:=fun g=>hge (by rw[←hn] at g;exact g)
  have:k=(aJ H.1 4 8 false).2.toNat:=by omega
  subst this
  refine dH (by decide) (jM hc1 (eX jC _ _)) fun h=>cH h fun h=>cH h fun h=>cH h fun h=>cH h fun h=>cH h fun h=>cH h fun h=>cH h fun h=>cH h fun h=>cH h fun h=>?_
  refine oC (fun he=>?_) fun he=>?_
  ·have e1:fU a0=((nM a0).1,AO):=if_neg (by rw[e0];exact he)
   rw[e1,e0];rfl
  ·have e1:fU a0=nM a0:=if_pos (by rw[e0];exact he)
   rw[e1,e0];rfl
end Go.Pv
namespace Go.Pv
open Go Go.Proofs
noncomputable def sH:Env:=Env.of [(14,.dR bH),(89,.dR bP),(46,.dR jU),(47,.dR kE)]
def A6:FuncId→Hint:=fun _=>bT
theorem DW:aM Tryz.prog sH:=.cons n5 (.cons pN (.cons JK (.cons MG (.nil _))))
def d6:List T:=[T.v (.int .i64 0), T.v (.string {data:=#[]}), T.v (.string {data:=#[]}), T.v (.string {data:=#[]}), T.v (.int .i64 0), T.v (.string {data:=#[]}), T.v (.string {data:=#[]}), T.v (.int .i64 0), T.v (.int .i64 0), T.v (.string {data:=#[]}), T.v (.string {data:=#[]}), T.v (.int .i64 0),T.sl false [], T.sl false [],T.v (.string {data:=#[]}), T.v (.int .i64 0), T.v (.int .i64 0), T.v (.int .i64 0), T.v (.int .i64 0), T.v (.int .i64 0), T.v (.int .i64 0), T.v (.int .i64 0), T.v (.int .i64 0), T.v (.int .i64 0), T.v (.string {data:=#[]}), T.v (.string {data:=#[]}), T.v (.string {data:=#[]}), T.v (.int .i64 0), T.v (.int .i64 0), T.v (.int .i64 0), T.v (.string {data:=#[]}), T.v (.string {data:=#[]}),T.sl false [], T.v (.int .i64 0),T.sl false [], T.v (.int .i64 0), T.v (.string {data:=#[]}), T.v (.string {data:=#[]})]
def WZ(y1:aD×ByteArray):List T:=[aE true aC y1.1,T.v (.int .i64 64)]
def XA(y15:aD×List ByteArray):List T:=[aE true aC y15.1, T.v (.int .i64 (-9223372036854775808)), T.v (.int .i64 9223372036854775807)]
def sN(a0:aD)(R:T→Prop):Prop:=aF d0 (bH [aE true aC a0,T.v (.int .i64 (-9223372036854775808)), T.v (.int .i64 9223372036854775807)]) fun (y0:aD×Int)=>aF d9 (bP (W3 y0)) fun (y1:aD×ByteArray)=>aF d9 (bP (WZ y1)) fun (y2:aD×ByteArray)=>aF d9 (bP (WZ y2)) fun (y3:aD×ByteArray)=>aF d0 (bH (UV y3)) fun (y4:aD×Int)=>aF d9 (bP (W3 y4)) fun (y5:aD×ByteArray)=>aF [(true,aC),(true,gP)] (jU [aE true aC y5.1]) fun (y6:aD×fR)=>aF d9 (bP [aE true aC y6.1,T.v (.int .i64 64)]) fun (y7:aD×ByteArray)=>aF d9 (bP (WZ y7)) fun (y8:aD×ByteArray)=>aF d9 (bP (WZ y8)) fun (y9:aD×ByteArray)=>aF d0 (bH (W9 y9)) fun (y10:aD×Int)=>aF d0 (bH (t7 y10)) fun (y11:aD×Int)=>aF d0 (bH (t7 y11)) fun (y12:aD×Int)=>aF d9 (bP (W3 y12)) fun (y13:aD×ByteArray)=>aF d9 (bP (WZ y13)) fun (y14:aD×ByteArray)=>aF [(true,aC),(false,Sy.str.li)] (kE [aE true aC y14.1, T.v (.int .i64 256)]) fun (y15:aD×List ByteArray)=>aF d0 (bH (XA y15)) fun (y16:aD×Int)=>aF [(true,aC),(false,Sy.str.li)] (kE [aE true aC y16.1, T.v (.int .i64 64)]) fun (y17:aD×List ByteArray)=>aF d0 (bH (XA y17)) fun (y18:aD×Int)=>aF d9 (bP [aE true aC y18.1, T.v (.int .i64 64)]) fun (y19:aD×ByteArray)=>aF d9 (bP [aE true aC y19.1, T.v (.int .i64 64)]) fun (y20:aD×ByteArray)=>aI (!decide (y20.1.2=0)) (R (T.aT [aE true aC y20.1, T.agg d6])) (R (T.aT [aE true aC y20.1, T.agg [T.v (.int .i64 y0.2), T.v (.string y1.2), T.v (.string y2.2), T.v (.string y3.2), T.v (.int .i64 y4.2), T.v (.string y5.2), T.v (.string y6.2.1), T.v (.int .i64 y6.2.2.1), T.v (.int .i64 y6.2.2.2.1), T.v (.string y6.2.2.2.2.1), T.v (.string y6.2.2.2.2.2.1), T.v (.int .i64 y6.2.2.2.2.2.2.1), T.sl false (List.map aH.enc y6.2.2.2.2.2.2.2.1.1), T.sl false (List.map aH.li.enc y6.2.2.2.2.2.2.2.1.2), T.v (.string y6.2.2.2.2.2.2.2.2.1), T.v (.int .i64 y6.2.2.2.2.2.2.2.2.2.1), T.v (.int .i64 y6.2.2.2.2.2.2.2.2.2.2.1), T.v (.int .i64 y6.2.2.2.2.2.2.2.2.2.2.2.1.1), T.v (.int .i64 y6.2.2.2.2.2.2.2.2.2.2.2.1.2.1), T.v (.int .i64 y6.2.2.2.2.2.2.2.2.2.2.2.1.2.2), T.v (.int .i64 y6.2.2.2.2.2.2.2.2.2.2.2.2.1.1), T.v (.int .i64 y6.2.2.2.2.2.2.2.2.2.2.2.2.1.2.1), T.v (.int .i64 y6.2.2.2.2.2.2.2.2.2.2.2.2.1.2.2), T.v (.int .i64 y6.2.2.2.2.2.2.2.2.2.2.2.2.2), T.v (.string y7.2), T.v (.string y8.2), T.v (.string y9.2), T.v (.int .i64 y10.2), T.v (.int .i64 y11.2), T.v (.int .i64 y12.2), T.v (.string y13.2), T.v (.string y14.2), T.sl false (List.map Sy.str.enc y15.2), T.v (.int .i64 y16.2), T.sl false (List.map Sy.str.enc y17.2), T.v (.int .i64 y18.2), T.v (.string y19.2), T.v (.string y20.2)]]))
theorem AV ( a0 R):dN bD Tryz.prog sH A6 8 16 [aE true aC a0] R=sN a0 R:=by kernel_rfl
abbrev oO:Sh:=[(true,aC)]
abbrev u6:Sh:=[(true,aC),(true,eZ)]
theorem QH {r:cB} {K:cB×fR→Prop} (h:vN r=true) (hk:vN (fU r).1=true→K (fU r)):aF [(true,aC),(true,gP)] (jU [aE true aC r]) K :=
 aQ (s:=C0) (y:=fU r) ((CC ..).trans (by unfold mD;rw[h])) (hk (jM h (u4 r)))
theorem H0 {r:cB} {n:Int} (hn:(decide (0≤n)&&decide (n≤300))=true) {K:cB×List ByteArray→Prop} (h:vN r=true) (hk:vN (fM n r).1=true→K (fM n r)):aF [(true,aC),(false,Sy.str.li)] (kE [aE true aC r,T.v (.int .i64 n)]) K :=
 aQ (s:=H7) (y:=fM n r) ((FG ..).trans (by unfold o0;dsimp only;rw[h,hn];rfl)) (hk (jM h (l9 n r)))
def j1 (x:cC):Option T:=match vN x with
 | true=>some (Sh.enc u6 (gK x))
 | false=>none
noncomputable def jT:List T→Option (T):=gS oO j1
theorem qF {a0}:jT [aE true aC a0]=j1 (a0):=cI (s:=oO) rfl (a0) rfl
theorem KB (h:∀ a0 r,j1 (a0)=some r→e6 oO (a0)→sN a0 (fun y=>y=r)):bN Tryz.prog 16 jT :=
 cJ (E:=sH) (Hs:=A6) DW bF bG (aX rfl) 8 ⟨_,_,Tryz.func16,rfl⟩ rfl fun x r h1 h2=>by
  let a0:=x
  rw[show Sh.dI oO (a0)=[aE true aC a0] from rfl,AV]
  exact h a0 r h1 h2
theorem JJ:bN Tryz.prog 16 jT:=KB fun a0 r h hb=>by
 clear hb
 obtain ⟨hc,rfl⟩:=DM h
 clear h
 unfold sN XA W9 W3 WZ UV t7 d9 d6 d0
 refine cH hc fun h=>dH (by decide) h fun h=>dH (by decide) h fun h=>dH (by decide) h fun h=>cH h fun h=>dH (by decide) h fun h=>QH h fun h=>?_
 refine dH (by decide) h fun h=>dH (by decide) h fun h=>dH (by decide) h fun h=>cH h fun h=>cH h fun h=>cH h fun h=>?_
 refine dH (by decide) h fun h=>dH (by decide) h fun h=>H0 (by decide) h fun h=>cH h fun h=>H0 (by decide) h fun h=>?_
 refine cH h fun h=>dH (by decide) h fun h=>dH (by decide) h fun h=>?_
 refine oC (fun he=>?_) fun he=>?_
 ·have e1:gK a0=((pW a0).1,p5):=if_neg he
  rw[e1];rfl
 ·have e1:gK a0=pW a0:=if_pos he
  rw[e1];rfl
end Go.Pv
namespace Go.Pv
open Go Go.Proofs
noncomputable def K6:Env:=Env.of []
def LG:FuncId→Hint:=gJ 240 [(3,.inv [.val 0 false (.int .u64),.val 5 false .str,.val 6 false (.int .i64)])] (fun _=>bT)
theorem DU:aM Tryz.prog K6:=.nil _
def sL(a0:Int)(a1:Int)(R:T→Prop):Prop:=eU (Int×ByteArray×Int×PUnit) (fun X0 s1=>aI (decide (s1.2.2.1<a1)) (bJ true (bJ (decide ((↑((strOfNums [IntKind.u8.wrap (Int.tmod s1.1 256)]).size+ByteArray.size s1.2.1):Int) ≤ 9223372036854775807)) (bJ true (X0 (IntKind.u64.wrap (Int.tdiv s1.1 256), strOfNums [IntKind.u8.wrap (Int.tmod s1.1 256)]++s1.2.1, IntKind.i64.wrap (s1.2.2.1+1),()))))) (R (T.v (.string s1.2.1)))) (a0,{data:=#[]},0,())
abbrev u9:Sh:=[(false,(Sy.int IntKind.u64)),(false,(Sy.int IntKind.i64))]
def VA (t:ByteArray):Option T:=match decide (t.size≤1099511627776) with
 | true=>some (.v (.string (VB t)))
 | false=>none
theorem UX {c:Bool} {a r:T} (h:(match c with|true=>some a|false=>none)=some r):c=true∧a=r:=by
 cases c with
 | true=>exact ⟨rfl,Option.some.inj h⟩
 | false=>cases h
def j0 (x:Int×Int):Option T:=match decide (0≤x.1)&&decide (x.1<18446744073709551616)&&decide (0≤x.2)&&decide (x.2≤100) with
 | true=>some (.v (.string (rV (p7 x.2.toNat x.1.toNat))))
 | false=>none
noncomputable def bK:List T→Option T:=gS u9 j0
theorem CA {a0 a1}:bK [T.v (.int .u64 a0),T.v (.int .i64 a1)]=j0 (a0,a1):=cI (s:=u9) rfl (a0,a1) rfl
theorem J9:O1 Tryz.prog 240 bK j0 (e6 u9) sL:=zP (a1:=(false,(Sy.int IntKind.u64))) (a2:=(false,(Sy.int IntKind.i64))) (sp:=j0) (F:=sL) (Hs:=LG) (f:=240) (k:=8) DU bF bG (aX rfl) ⟨_,_,Tryz.func240,rfl⟩ rfl fun _ _ _=>by kernel_rfl
theorem uV (l:List Nat):(rV l).size=l.length:=by simp[rV,ByteArray.size]
theorem rR:∀ (n v:Nat),(p7 n v).length=n
 | 0,_=>rfl
 | n+1,v=>by simp[p7,rR n]
theorem JH:bE Tryz.prog 240 bK:=J9 fun v n r h hb=>by
 clear hb
 obtain ⟨hs,rfl⟩:=UX h
 clear h
 simp only[Bool.and_eq_true,decide_eq_true_eq] at hs
 obtain ⟨⟨⟨h0,h1⟩,h2⟩,h3⟩:=hs
 obtain ⟨w,rfl⟩:∃ w:Nat,v=(w:Int):=⟨v.toNat,by omega⟩
 obtain ⟨m,rfl⟩:∃ m:Nat,n=(m:Int):=⟨n.toNat,by omega⟩
 unfold sL
 refine dY m (fun k s=>s.1=((w / 256 ^ k:Nat):Int)∧s.2.1=rV (p7 k w)∧s.2.2.1=(k:Int)) ⟨by simp,rfl,rfl⟩ ?_
 rintro X k ⟨a,b,i,u⟩ hk ⟨e1,e2,e3⟩ hX
 dsimp only at e1 e2 e3 ⊢
 subst e1 e2 e3
 have hw:w / 256 ^ k≤w:=Nat.div_le_self ..
 refine eQ (fun hlt=>?_) fun hge=>?_
 ·have hlt:k<m:=by omega
  have es:strOfNums [IntKind.u8.wrap (Int.tmod ((w / 256 ^ k:Nat):Int) 256)]++rV (p7 k w)=rV (p7 (k+1) w):=by
   have e:IntKind.u8.wrap (Int.tmod ((w / 256 ^ k:Nat):Int) 256)=((w / 256 ^ k % 256:Nat):Int):=by
    rw[show Int.tmod ((w / 256 ^ k:Nat):Int) 256=((w / 256 ^ k % 256:Nat):Int) from (Int.ofNat_tmod _ 256).symm,o6]
    omega
   rw[e,eR]
   have:=mT [w / 256 ^ k % 256]
   rw[show strOfNums [((w / 256 ^ k % 256:Nat):Int)]=rV [w / 256 ^ k % 256] from this,←uU];rfl
  refine ⟨rfl,?_,rfl,?_⟩
  ·refine decide_eq_true ?_
   rw[uV,rR,strOfNums_size]
   simp only[List.length_cons,List.length_nil]
   omega
  ·refine hX _ hlt ⟨?_,es,?_⟩
   ·show IntKind.u64.wrap (Int.tdiv ((w / 256 ^ k:Nat):Int) 256)=_
    rw[show Int.tdiv ((w / 256 ^ k:Nat):Int) 256=((w / 256 ^ k / 256:Nat):Int) from (Int.ofNat_tdiv _ 256).symm,Nat.div_div_eq_div_mul,←Nat.pow_succ]
    have:w / 256 ^ k.succ≤w:=Nat.div_le_self ..
    generalize w / 256 ^ k.succ=q at this ⊢
    exact wrap_u64 (by omega) (by omega)
   ·show IntKind.i64.wrap ((k:Int)+1)=_
    rw[bB]<;>omega
 ·have hkm:k=m:=by omega
  subst hkm
  rfl
end Go.Pv
namespace Go.Pv
open Go Go.Proofs
noncomputable def OX:Env:=Env.of [(240,.pure bK)]
def OZ:FuncId→Hint:=fun _=>bT
theorem IK:aM Tryz.prog OX:=.cons JH (.nil _)
def f6:Sh:=[(false,Sy.str)]
def LE(y7:ByteArray)(y8:ByteArray)(R:T→Prop):Prop:=bJ (decide ((↑(y7.size+y8.size):Int)≤9223372036854775807)) (R (T.v (.string (y7++y8))))
def m8(a0:Int)(a1:Int)(R:T→Prop):Prop:=aF f6 (bK [T.v (.int .u64 (IntKind.u64.wrap (IntKind.i64.wrap (IntKind.i64.wrap (32*a0)+27)))), T.v (.int .i64 1)]) fun (y1:ByteArray)=>aF f6 (bK [T.v (.int .u64 a1),T.v (.int .i64 8)]) fun (y2:ByteArray)=>LE y1 y2 R
def FS(a1:Int)(a0:Int)(R:T→Prop):Prop:=aI (decide (4294967295<a1)) (m8 a0 a1 R) (aF f6 (bK [T.v (.int .u64 (IntKind.u64.wrap (IntKind.i64.wrap (IntKind.i64.wrap (32*a0)+26)))), T.v (.int .i64 1)]) fun (y3:ByteArray)=>aF f6 (bK [T.v (.int .u64 a1),T.v (.int .i64 4)]) fun (y4:ByteArray)=>LE y3 y4 R)
def yK(a0:Int)(a1:Int)(R:T→Prop):Prop:=aI (decide (a1<24)) (aF f6 (bK [T.v (.int .u64 (IntKind.u64.wrap (IntKind.u64.wrap (IntKind.i64.wrap (32*a0))+a1))), T.v (.int .i64 1)]) fun (y0:ByteArray)=>R (T.v (.string y0))) (aI (decide (255<a1)) (aI (decide (65535<a1)) (FS a1 a0 R) (aI (decide (4294967295<a1)) (m8 a0 a1 R) (aF f6 (bK [T.v (.int .u64 (IntKind.u64.wrap (IntKind.i64.wrap (IntKind.i64.wrap (32*a0)+25)))), T.v (.int .i64 1)]) fun (y7:ByteArray)=>aF f6 (bK [T.v (.int .u64 a1),T.v (.int .i64 2)]) fun (y8:ByteArray)=>LE y7 y8 R))) (aI (decide (65535<a1)) (FS a1 a0 R) (aI (decide (4294967295<a1)) (m8 a0 a1 R) (aF f6 (bK [T.v (.int .u64 (IntKind.u64.wrap (IntKind.i64.wrap (IntKind.i64.wrap (32*a0)+24)))), T.v (.int .i64 1)]) fun (y15:ByteArray)=>aF f6 (bK [T.v (.int .u64 a1),T.v (.int .i64 1)]) fun (y16:ByteArray)=>LE y15 y16 R))))
abbrev AG:Sh:=[(false,(Sy.int IntKind.i64)),(false,(Sy.int IntKind.u64))]
def lT (x:Int×Int):Option T:=match decide (0≤x.1)&&decide (x.1<8)&&decide (0≤x.2)&&decide (x.2<18446744073709551616) with
 | true=>some (.v (.string (rV (dJ x.1.toNat x.2.toNat))))
 | false=>none
noncomputable def kD:List T→Option T:=gS AG lT
theorem FF {a0 a1}:kD [T.v (.int .i64 a0),T.v (.int .u64 a1)]=lT (a0,a1):=cI (s:=AG) rfl (a0,a1) rfl
theorem NO:O1 Tryz.prog 88 kD lT (e6 AG) yK:=zP (a1:=(false,(Sy.int IntKind.i64))) (a2:=(false,(Sy.int IntKind.u64))) (sp:=lT) (F:=yK) (Hs:=OZ) (f:=88) (k:=8) IK bF bG (aX rfl) ⟨_,_,Tryz.func88,rfl⟩ rfl fun _ _ _=>by kernel_rfl
theorem N9 {v n:Int} (h0:0≤v) (h1:v<18446744073709551616) (h2:0≤n) (h3:n≤100):bK [T.v (.int .u64 v),T.v (.int .i64 n)]=some (Sh.enc [(false,Sy.str)] (rV (p7 n.toNat v.toNat))):=by
 rw[CA]
 unfold j0
 dsimp only
 rw[decide_eq_true h0,decide_eq_true h1,decide_eq_true h2,decide_eq_true h3];rfl
theorem QT {v:Nat} (h:v<256):p7 1 v=[v]:=by rw[VZ,Nat.div_one,Nat.mod_eq_of_lt h]
theorem MF:bE Tryz.prog 88 kD:=NO fun k v r h hb=>by
 clear hb
 obtain ⟨hs,rfl⟩:=UX h
 clear h
 simp only[Bool.and_eq_true,decide_eq_true_eq] at hs
 obtain ⟨⟨⟨h0,h1⟩,h2⟩,h3⟩:=hs
 obtain ⟨w,rfl⟩:∃ w:Nat,v=(w:Int):=⟨v.toNat,by omega⟩
 obtain ⟨m,rfl⟩:∃ m:Nat,k=(m:Int):=⟨k.toNat,by omega⟩
 have hm:m<8:=by omega
 have wk:IntKind.i64.wrap (32*(m:Int))=((32*m:Nat):Int):=by rw[bB]<;>omega
 have hd:∀ c:Nat,c<32→IntKind.u64.wrap (IntKind.i64.wrap (IntKind.i64.wrap (32*(m:Int))+(c:Int)))=((32*m+c:Nat):Int):=fun c hc=>by
  rw[wk,show IntKind.i64.wrap (((32*m:Nat):Int)+(c:Int))=((32*m+c:Nat):Int) by rw[bB]<;>omega]
  exact wrap_u64 (by omega) (by omega)
 unfold yK FS m8 LE f6
 have two:∀ (c n:Nat),c<32→n≤8→dJ m w=(32*m+c)::p7 n w →
   aF [(false,Sy.str)] (bK [T.v (.int .u64 (IntKind.u64.wrap (IntKind.i64.wrap (IntKind.i64.wrap (32*(m:Int))+(c:Int))))),T.v (.int .i64 1)]) fun y1=>aF [(false,Sy.str)] (bK [T.v (.int .u64 (w:Int)),T.v (.int .i64 (n:Int))]) fun y2=>bJ (decide (((y1.size+y2.size:Nat):Int)≤9223372036854775807)) (T.v (.string (y1++y2))=T.v (.string (rV (dJ m w)))):=fun c n hc hn e=>by
  rw[hd c hc]
  refine aQ (s:=[(false,Sy.str)]) (N9 (by omega) (by omega) (by omega) (by omega)) ?_
  refine aQ (s:=[(false,Sy.str)]) (N9 (by omega) (by omega) (by omega) (by omega)) ?_
  refine ⟨decide_eq_true ?_,?_⟩
  ·rw[uV,uV,rR,rR]
   omega
  ·rw[e,←uU]
   rw[show p7 (Int.toNat 1) (Int.toNat ((32*m+c:Nat):Int))=[32*m+c] from QT (by omega)]
   rfl
 refine eQ (fun h=>?_) fun h24=>?_
 ·have e:IntKind.u64.wrap (IntKind.u64.wrap (IntKind.i64.wrap (32*(m:Int)))+(w:Int))=((32*m+w:Nat):Int):=by
   have e0:IntKind.u64.wrap ((32*m:Nat):Int)=((32*m:Nat):Int):=wrap_u64 (by omega) (by omega)
   rw[wk,e0,wrap_u64 (by omega) (by omega)]
   omega
  rw[e]
  refine aQ (s:=[(false,Sy.str)]) (N9 (by omega) (by omega) (by omega) (by omega)) ?_
  show T.v (.string (rV (p7 1 (32*m+w))))=T.v (.string (rV (dJ m w)))
  rw[QT (by omega)]
  unfold dJ
  rw[if_pos (by omega)]
 refine eQ (fun h255=>?_) fun h255=>?_
 ·refine eQ (fun h65=>?_) fun h65=>?_
  ·refine eQ (fun h32=>?_) fun h32=>?_
   ·exact two 27 8 (by omega) (by omega) (by unfold dJ;rw[if_neg (by omega),if_neg (by omega),if_neg (by omega),if_neg (by omega)])
   ·exact two 26 4 (by omega) (by omega) (by unfold dJ;rw[if_neg (by omega),if_neg (by omega),if_neg (by omega),if_pos (by omega)])
  ·refine eQ (fun h32=>by omega) fun h32=>?_
   exact two 25 2 (by omega) (by omega) (by unfold dJ;rw[if_neg (by omega),if_neg (by omega),if_pos (by omega)])
 ·refine eQ (fun h65=>by omega) fun h65=>?_
  refine eQ (fun h32=>by omega) fun h32=>?_
  exact two 24 1 (by omega) (by omega) (by unfold dJ;rw[if_neg (by omega),if_pos (by omega)])
theorem U5 {k v:Int} (h0:0≤v) (h1:v<18446744073709551616) (h2:0≤k) (h3:k<8):kD [T.v (.int .i64 k),T.v (.int .u64 v)]=some (Sh.enc [(false,Sy.str)] (rV (dJ k.toNat v.toNat))):=by
 rw[FF]
 unfold lT
 dsimp only
 rw[decide_eq_true h0,decide_eq_true h1,decide_eq_true h2,decide_eq_true h3];rfl
end Go.Pv
namespace Go.Pv
open Go Go.Proofs
noncomputable def DQ:Env:=Env.of [(88,.pure kD)]
def LD:FuncId→Hint:=gJ 42 [(11,.inv [.val 13 false (.int .i64),.val 14 false (.int .i64)]),(18,.inv [.val 15 false (.int .u64),.val 16 false (.int .i64)])] (fun _=>bT)
theorem LA:aM Tryz.prog DQ:=.cons MF (.nil _)
def W4(a0:aB):List T:=[aE true aA a0,T.v (.int .i64 0), T.v (.int .u64 0),T.v (.int .i64 0), T.v (.int .i64 3)]
def W5(a0:aB):List T:=[aE true aA a0,T.v (.int .i64 0), T.v (.int .u64 0),T.v (.int .i64 0), T.v (.int .i64 5)]
def i8(y0:Int)(R:T→Prop)(a0:aB):Prop:=aI (decide (27<(IntKind.i64.wrap y0).tmod 32)) (R (T.aT (W5 a0))) (aI (decide ((IntKind.i64.wrap y0).tmod 32<24)) (R (T.aT [aE true aA a0, T.v (.int .i64 (IntKind.i64.wrap ((IntKind.i64.wrap y0).tdiv 32))), T.v (.int .u64 (IntKind.u64.wrap ((IntKind.i64.wrap y0).tmod 32))), T.v (.int .i64 1),T.v (.int .i64 0)])) (eU (Int×Int×PUnit) (fun X1 s2=>aI (decide (s2.2.1<(IntKind.i64.wrap y0).tmod 32)) (X1 (IntKind.i64.wrap (2*s2.1),IntKind.i64.wrap (s2.2.1+1),())) (aI (decide (IntKind.i64.wrap (IntKind.i64.wrap ((↑(ByteArray.size a0.1):Int)-a0.2.1)-1) < s2.1)) (R (T.aT (W4 a0))) (eU (Int×Int×PUnit) (fun X3 s4=>aI (decide (s4.2.1<s2.1)) (wK a0.1 (IntKind.i64.wrap (IntKind.i64.wrap (a0.2.1+1)+s4.2.1)) fun (y5:Int)=>X3 (IntKind.u64.wrap (IntKind.u64.wrap (256*s4.1)+IntKind.u64.wrap y5), IntKind.i64.wrap (s4.2.1+1),())) (aF f6 (kD [T.v (.int .i64 (IntKind.i64.wrap ((IntKind.i64.wrap y0).tdiv 32))), T.v (.int .u64 s4.1)]) fun (y6:ByteArray)=>bJ (decide (0≤IntKind.i64.wrap (IntKind.i64.wrap (a0.2.1+1)+s2.1)) && decide ((IntKind.i64.wrap (IntKind.i64.wrap (a0.2.1+1)+s2.1)).toNat ≤ ByteArray.size a0.1) && (decide (0≤a0.2.1) && decide (Int.toNat a0.2.1 ≤ (IntKind.i64.wrap (IntKind.i64.wrap (a0.2.1+1)+s2.1)).toNat))) (aI (!decide (y6 = ByteArray.extract a0.1 (Int.toNat a0.2.1) (IntKind.i64.wrap (IntKind.i64.wrap (a0.2.1+1)+s2.1)).toNat)) (R (T.aT [aE true aA a0, T.v (.int .i64 0), T.v (.int .u64 0), T.v (.int .i64 0), T.v (.int .i64 5)])) (R (T.aT [aE true aA a0, T.v (.int .i64 (IntKind.i64.wrap ((IntKind.i64.wrap y0).tdiv 32))), T.v (.int .u64 s4.1), T.v (.int .i64 (IntKind.i64.wrap (1+s2.1))), T.v (.int .i64 0)]))))) (0,0,())))) (1,24,())))
def D4(a0:aB)(a1:Int)(a2:Int)(R:T→Prop):Prop:=aI (decide ((↑(ByteArray.size a0.1):Int)≤a0.2.1)) (R (T.aT (W4 a0))) (wK a0.1 a0.2.1 fun (y0:Int)=>bJ true (bJ true (aI (!decide (IntKind.i64.wrap ((IntKind.i64.wrap y0).tdiv 32)=a1)) (aI (!decide (IntKind.i64.wrap ((IntKind.i64.wrap y0).tdiv 32)=a2)) (R (T.aT (W5 a0))) (i8 y0 R a0)) (i8 y0 R a0))))
theorem IT ( a0 a1 a2 R):dN bD Tryz.prog DQ LD 8 42 [aE true aA a0,aE false (Sy.int IntKind.i64) a1,
 aE false (Sy.int IntKind.i64) a2] R=D4 a0 a1 a2 R:=by kernel_rfl
abbrev AE:Sh:=[(true,aA),(false,(Sy.int IntKind.i64)),(false,(Sy.int IntKind.i64))]
abbrev F7:Sh:=[(true,aA),(false,Sy.int IntKind.i64),(false,Sy.int IntKind.u64),(false,Sy.int IntKind.i64),(false,Sy.int IntKind.i64)]
def toR (q:aB):cB:=(q.1.extract q.2.1.toNat q.1.size,q.2.2)
def FZ (q:aB):Bool:=decide (0≤q.2.1)&&(decide (q.2.1≤(q.1.size:Int))&&decide (q.1.size≤140737488355328))
noncomputable def sE (x:aB×Int×Int):Option T:=match FZ x.1 with
 | true=>some (Sh.enc F7 (x.1,aU (toR x.1).1 x.2.1 x.2.2))
 | false=>none
noncomputable def jK:List T→Option (T):=gS AE sE
theorem JQ {a0 a1 a2}:jK [aE true aA a0,T.v (.int .i64 a1),
 T.v (.int .i64 a2)]=sE (a0,a1,a2):=cI (s:=AE) rfl (a0,a1,a2) rfl
theorem QA (h:∀ a0 a1 a2 r,sE (a0,a1,a2)=some r→e6 AE (a0,a1,a2)→D4 a0 a1 a2 (fun y=>y=r)):bN Tryz.prog 42 jK :=
 cJ (E:=DQ) (Hs:=LD) LA bF bG (aX rfl) 8 ⟨_,_,Tryz.func42,rfl⟩ rfl fun x r h1 h2=>by
  obtain ⟨a0,a1,a2⟩:=x
  rw[show Sh.dI AE (a0,a1,a2)=[aE true aA a0,aE false (Sy.int IntKind.i64) a1,
 aE false (Sy.int IntKind.i64) a2] from rfl,IT]
  exact h a0 a1 a2 r h1 h2
theorem SP (b:UInt8):IntKind.i64.wrap ((IntKind.i64.wrap (b.toNat:Int)).tdiv 32)=((b.toNat / 32:Nat):Int):=by
 have:=b.toNat_lt
 rw[bB (b.toNat:Int) (by omega) (by omega),Int.tdiv_eq_ediv_of_nonneg (by omega),bB _ (by omega) (by omega)];omega
theorem U2 (b:UInt8):(IntKind.i64.wrap (b.toNat:Int)).tmod 32=((b.toNat % 32:Nat):Int):=by
 have:=b.toNat_lt
 rw[bB (b.toNat:Int) (by omega) (by omega),Int.tmod_eq_emod_of_nonneg (by omega)];omega
theorem U1 {v:Nat} (hv:v<72057594037927936) (b:UInt8):IntKind.u64.wrap (IntKind.u64.wrap (256*(v:Int))+IntKind.u64.wrap (b.toNat:Int))=((256*v+b.toNat:Nat):Int):=by
 have:=b.toNat_lt
 rw[wrap_u64 (n:=256*(v:Int)) (by omega) (by omega),wrap_u64 (n:=(b.toNat:Int)) (by omega) (by omega),wrap_u64 (by omega) (by omega)];omega
theorem zF:bN Tryz.prog 42 jK:=QA fun a0 a1 a2 r h hb=>by
 clear hb
 obtain ⟨hc,rfl⟩:=DM h
 clear h
 obtain ⟨S,At,e0⟩:=a0
 unfold FZ at hc
 simp only[Bool.and_eq_true,decide_eq_true_eq] at hc
 obtain ⟨hp0,hp1,hS⟩:=hc
 obtain ⟨p,rfl⟩:=Int.eq_ofNat_of_zero_le hp0
 have hp:p≤S.size:=by omega
 unfold D4 i8 W5 W4 f6
 dsimp only
 generalize hs:(toR (S,(p:Int),e0)).1=s
 have hs':s=S.extract p S.size:=hs.symm
 have hsl:s.data.toList=S.data.toList.drop p:=by rw[hs',iC]
 have hlen:S.data.toList.length=S.size:=rfl
 have no:∀ {e:Int},aU s a1 a2=(0,0,0,e)→T.aT [aE true aA (S,(p:Int),e0),T.v (.int .i64 0),T.v (.int .u64 0),T.v (.int .i64 0),T.v (.int .i64 e)]=Sh.enc F7 ((S,(p:Int),e0),aU s a1 a2):=fun h=>by rw[h];rfl
 cases hl:s.data.toList with
 | nil =>
  have pk:aU s a1 a2=(0,0,0,3):=by unfold aU;rw[hl]
  have h0:S.size≤p:=by
   have:=congrArg List.length (hsl.symm.trans hl)
   rw[List.length_drop,hlen] at this
   have h0:S.size-p=0:=this
   omega
  exact eQ (fun _=>no pk) fun h=>absurd (show (S.size:Int)≤(p:Int) by omega) h
 | cons b l =>
  have hll:S.size=p+1+l.length:=by
   have:=congrArg List.length (hsl.symm.trans hl)
   rw[List.length_drop,hlen,List.length_cons] at this
   omega
  have hat:∀ j,S.data[p+j]? = (b::l)[j]? := fun j=>by
   rw[←hl,hsl,List.getElem?_drop,←Array.getElem?_toList]
  refine eQ (fun h=>(by omega)) fun _=>⟨b,by omega,by rw[Int.toNat_natCast];exact hat 0,rfl,rfl,?_⟩
  rw[SP,U2]
  have pk:aU s a1 a2=(if (¬ ((b.toNat / 32:Nat):Int)=a1∧¬ ((b.toNat / 32:Nat):Int)=a2)∨27<b.toNat % 32 then (0,0,0,5)
   else if b.toNat % 32<24 then (((b.toNat / 32:Nat):Int),((b.toNat % 32:Nat):Int),1,0)
   else if l.length<2 ^ (b.toNat % 32-24) then (0,0,0,3)
   else if rV (dJ (b.toNat / 32) (pA ((l.take (2 ^ (b.toNat % 32-24))).map UInt8.toNat)))=s.extract 0 (1+2 ^ (b.toNat % 32-24)) then
    (((b.toNat / 32:Nat):Int),((pA ((l.take (2 ^ (b.toNat % 32-24))).map UInt8.toNat):Nat):Int),((1+2 ^ (b.toNat % 32-24):Nat):Int),0)
   else (0,0,0,5)):=by unfold aU;rw[hl]
  refine VG (fun h1 h2=>no ?_) fun h12=>?_
  ·rw[pk,if_pos (.inl ⟨of_decide_eq_false h1,of_decide_eq_false h2⟩)]
  have h12:¬ (¬ ((b.toNat / 32:Nat):Int)=a1∧¬ ((b.toNat / 32:Nat):Int)=a2):=fun h=>h12.elim (fun e=>h.1 (of_decide_eq_true e)) fun e=>h.2 (of_decide_eq_true e)
  refine eQ (fun h=>no ?_) fun h27=>?_
  ·rw[pk,if_pos (.inr (by omega))]
  have c1:¬ ((¬ ((b.toNat / 32:Nat):Int)=a1∧¬ ((b.toNat / 32:Nat):Int)=a2)∨27<b.toNat % 32):=fun h=>h.elim h12 fun h=>by omega
  rw[if_neg c1] at pk
  refine eQ (fun h=>?_) fun h24=>?_
  ·rw[pk,if_pos (by omega),wrap_u64 (by omega) (by omega)];rfl
  rw[if_neg (by omega)] at pk
  have m1:24≤b.toNat % 32:=by omega
  have m2:b.toNat % 32≤27:=by omega
  have pw:∀ k,k≤3→(2:Nat) ^ k≤8:=fun k hk=>Nat.pow_le_pow_right (n:=2) (by omega) hk
  refine dY (b.toNat % 32-24) (fun k st=>st=(((2 ^ k:Nat):Int),((24+k:Nat):Int),())) rfl ?_
  rintro X k st hk rfl hX
  dsimp only
  refine eQ (fun hlt=>?_) fun hge=>?_
  ·refine hX _ (by omega) ?_
   have h2:IntKind.i64.wrap (2*((2 ^ k:Nat):Int))=((2 ^ (k+1):Nat):Int):=by
    have:=pw k (by omega)
    rw[Nat.pow_succ]
    generalize (2:Nat) ^ k=z at this ⊢
    rw[bB _ (by omega) (by omega)];omega
   rw[h2,bB _ (by omega) (by omega)]
   refine Prod.ext rfl (Prod.ext ?_ rfl)
   show ((24+k:Nat):Int)+1=((24+(k+1):Nat):Int)
   omega
  clear hX X
  have hkm:k=b.toNat % 32-24:=by omega
  rw[←hkm] at pk
  have hn8:(2:Nat) ^ k≤8:=pw k (by omega)
  have hn1:1≤(2:Nat) ^ k:=Nat.one_le_two_pow
  generalize 2 ^ k=n at *
  have wr:IntKind.i64.wrap (IntKind.i64.wrap ((S.size:Int)-(p:Int))-1)=(l.length:Int):=by
   rw[bB ((S.size:Int)-(p:Int)) (by omega) (by omega),bB _ (by omega) (by omega)];omega
  rw[wr]
  refine eQ (fun h=>no ?_) fun hlt=>?_
  ·rw[pk,if_pos (by omega)]
  rw[if_neg (by omega)] at pk
  have hv:∀ j,j≤8→pA ((l.take j).map UInt8.toNat)<256 ^ j:=fun j hj=>by
   have:=yW _ ((l.take j).map UInt8.toNat) rfl (fun b hb=>by
    obtain ⟨c,_,rfl⟩:=List.mem_map.1 hb
    exact c.toNat_lt)
   rw[List.length_map,List.length_take] at this
   exact Nat.lt_of_lt_of_le this (Nat.pow_le_pow_right (by omega) (by omega))
  have wp1:IntKind.i64.wrap ((p:Int)+1)=((p+1:Nat):Int):=by rw[bB _ (by omega) (by omega)];omega
  rw[wp1]
  refine dY n (fun k st=>st=(((pA ((l.take k).map UInt8.toNat):Nat):Int),(k:Int),())) rfl ?_
  rintro X k st hk rfl hX
  dsimp only
  refine eQ (fun hlt2=>?_) fun hge=>?_
  ·have hkn:k<n:=by omega
   have hkl:k<l.length:=by omega
   have wi:IntKind.i64.wrap (((p+1:Nat):Int)+(k:Int))=((p+(k+1):Nat):Int):=by rw[bB _ (by omega) (by omega)];omega
   rw[wi]
   refine ⟨l[k],by omega,?_,?_⟩
   ·rw[Int.toNat_natCast,hat,List.getElem?_cons_succ,List.getElem?_eq_getElem hkl]
   ·refine hX _ hkn ?_
    have h7:pA ((l.take k).map UInt8.toNat)<72057594037927936:=Nat.lt_of_lt_of_le (hv k (by omega)) (Nat.pow_le_pow_right (n:=256) (by omega) (show k≤7 by omega))
    rw[U1 h7,bB _ (by omega) (by omega)]
    refine Prod.ext ?_ rfl
    show ((256*pA ((l.take k).map UInt8.toNat)+l[k].toNat:Nat):Int)=((pA ((l.take (k+1)).map UInt8.toNat):Nat):Int)
    rw[List.take_succ_eq_append_getElem hkl,List.map_append]
    exact congrArg _ (tB _ _).symm
  ·have hkn:k=n:=by omega
   subst hkn
   have h8:pA ((l.take k).map UInt8.toNat)<18446744073709551616:=Nat.lt_of_lt_of_le (hv k (by omega)) (Nat.pow_le_pow_right (n:=256) (by omega) (show k≤8 by omega))
   have hb8:b.toNat / 32<8:=by have:=b.toNat_lt;omega
   refine aQ (s:=[(false,Sy.str)]) (U5 (by omega) (by omega) (by omega) (by omega)) ?_
   have we:IntKind.i64.wrap (((p+1:Nat):Int)+(k:Int))=((p+1+k:Nat):Int):=by rw[bB _ (by omega) (by omega)];omega
   have w1:IntKind.i64.wrap (1+(k:Int))=((1+k:Nat):Int):=by rw[bB _ (by omega) (by omega)];omega
   rw[we,w1,Int.toNat_natCast,Int.toNat_natCast,Int.toNat_natCast,Int.toNat_natCast]
   refine ⟨by rw[Bool.and_eq_true,Bool.and_eq_true,Bool.and_eq_true];exact ⟨⟨decide_eq_true (by omega),decide_eq_true (by omega)⟩,decide_eq_true (by omega),decide_eq_true (by omega)⟩,?_⟩
   have hx:S.extract p (p+1+k)=s.extract 0 (1+k):=wH (by
    rw[ByteArray.data_extract,ByteArray.data_extract,Array.toList_extract,Array.toList_extract,hsl,List.extract_eq_take_drop,List.extract_eq_take_drop,List.drop_zero]
    rw[show p+1+k-p=1+k-0 by omega])
   rw[hx]
   refine oC (fun h=>no ?_) fun h=>?_
   ·rw[pk,if_neg h]
   ·rw[pk,if_pos h];rfl
end Go.Pv
namespace Go.Pv
open Go Go.Proofs
noncomputable def DR:Env:=Env.of [(42,.dR jK)]
def LF:FuncId→Hint:=fun _=>bT
theorem LB:aM Tryz.prog DR:=.cons zF (.nil _)
def f5:Sh:=[(true,aA),(false,Sy.int IntKind.i64),(false,Sy.int IntKind.u64), (false,Sy.int IntKind.i64),(false,Sy.int IntKind.i64)]
def LT(y0:aB×Int×sV):List T:=[T.v (.string y0.1.1),T.v (.int .i64 y0.1.2.1), T.v (.int .i64 y0.2.2.2.2)]
def W1(y0:aB×Int×sV):List T:=[T.v (.string y0.1.1), T.v (.int .i64 (IntKind.i64.wrap (y0.1.2.1+y0.2.2.2.1))), T.v (.int .i64 y0.1.2.2)]
def GE(R:T→Prop)(y0:aB×Int×sV):Prop:=R (T.aT [T.agg (W1 y0), T.v (.int .i64 (IntKind.i64.wrap y0.2.2.1))])
def GT(R:T→Prop)(y0:aB×Int×sV):Prop:=R (T.aT [T.agg [T.v (.string y0.1.1),T.v (.int .i64 y0.1.2.1), T.v (.int .i64 9)], T.v (.int .i64 0)])
def m5(y0:aB×Int×sV)(R:T→Prop)(a1:Int)(a2:Int):Prop:=aI (!decide (y0.2.2.2.2=0)) (R (T.aT [T.agg (LT y0), T.v (.int .i64 0)])) (aI (decide (y0.2.1=1)) (aI (decide (IntKind.i64.wrap (-1-IntKind.i64.wrap y0.2.2.1)<a1)) (GT R y0) (aI (decide (a2<IntKind.i64.wrap (-1-IntKind.i64.wrap y0.2.2.1))) (GT R y0) (R (T.aT [T.agg (W1 y0), T.v (.int .i64 (IntKind.i64.wrap (-1-IntKind.i64.wrap y0.2.2.1)))])))) (aI (decide (IntKind.i64.wrap y0.2.2.1<a1)) (GT R y0) (aI (decide (a2<IntKind.i64.wrap y0.2.2.1)) (GT R y0) (GE R y0))))
def D7(a0:aB)(a1:Int)(a2:Int)(R:T→Prop):Prop:=aI (!decide (a0.2.2=0)) (R (T.aT [aE true aA a0,T.v (.int .i64 0)])) (aF f5 (jK [aE true aA a0,T.v (.int .i64 0), T.v (.int .i64 1)]) fun (y0:aB×Int×sV)=>aI (decide (y0.2.2.2.2=0)) (aI (decide (9223372036854775808≤y0.2.2.1)) (R (T.aT [T.agg [T.v (.string y0.1.1),T.v (.int .i64 y0.1.2.1), T.v (.int .i64 5)], T.v (.int .i64 0)])) (m5 y0 R a1 a2)) (m5 y0 R a1 a2))
theorem IU ( a0 a1 a2 R):dN bD Tryz.prog DR LF 8 15 [aE true aA a0,aE false (Sy.int IntKind.i64) a1,
 aE false (Sy.int IntKind.i64) a2] R=D7 a0 a1 a2 R:=by kernel_rfl
abbrev AF:Sh:=[(true,aA),(false,(Sy.int IntKind.i64)),(false,(Sy.int IntKind.i64))]
abbrev zZ:Sh:=[(true,aA),(false,Sy.int IntKind.i64)]
noncomputable def x5:Env:=Env.of [(42,.dR jK)]
def GP:FuncId→Hint:=fun _=>bT
theorem II:aM Tryz.prog x5:=.cons zF (.nil _)
def i7(y0:aB×Int×sV)(R:T→Prop):Prop:=aI (!decide (y0.2.2.2.2=0)) (R (T.aT [T.agg (LT y0), T.v (.string {data:=#[]})])) (bJ (decide (0 ≤ IntKind.i64.wrap (IntKind.i64.wrap (y0.1.2.1+y0.2.2.2.1) + IntKind.i64.wrap y0.2.2.1)) && decide ((IntKind.i64.wrap (IntKind.i64.wrap (y0.1.2.1+y0.2.2.2.1) + IntKind.i64.wrap y0.2.2.1)).toNat ≤ ByteArray.size y0.1.1) && (decide (0≤IntKind.i64.wrap (y0.1.2.1+y0.2.2.2.1)) && decide ((IntKind.i64.wrap (y0.1.2.1+y0.2.2.2.1)).toNat ≤ (IntKind.i64.wrap (IntKind.i64.wrap (y0.1.2.1+y0.2.2.2.1) + IntKind.i64.wrap y0.2.2.1)).toNat))) (R (T.aT [T.agg [T.v (.string y0.1.1), T.v (.int .i64 (IntKind.i64.wrap (IntKind.i64.wrap (y0.1.2.1+y0.2.2.2.1) + IntKind.i64.wrap y0.2.2.1))), T.v (.int .i64 y0.1.2.2)], T.v (.string (ByteArray.extract y0.1.1 (IntKind.i64.wrap (y0.1.2.1+y0.2.2.2.1)).toNat (IntKind.i64.wrap (IntKind.i64.wrap (y0.1.2.1+y0.2.2.2.1) + IntKind.i64.wrap y0.2.2.1)).toNat))])))
def RK(y0:aB×Int×sV):List T:=[T.v (.string y0.1.1),T.v (.int .i64 y0.1.2.1), T.v (.int .i64 4)]
def W2(y0:aB×Int×sV):List T:=[T.agg [T.v (.string y0.1.1),T.v (.int .i64 y0.1.2.1), T.v (.int .i64 3)], T.v (.string {data:=#[]})]
def yI(a0:aB)(a1:Int)(R:T→Prop):Prop:=aI (!decide (a0.2.2=0)) (R (T.aT [aE true aA a0,T.v (.string {data:=#[]})])) (aF f5 (jK [aE true aA a0,T.v (.int .i64 2), T.v (.int .i64 2)]) fun (y0:aB×Int×sV)=>aI (decide (y0.2.2.2.2=0)) (aI (decide (a1<0)) (R (T.aT [T.agg (RK y0), T.v (.string {data:=#[]})])) (aI (decide (IntKind.u64.wrap a1<y0.2.2.1)) (R (T.aT [T.agg (RK y0), T.v (.string {data:=#[]})])) (aI (decide (y0.2.2.2.2=0)) (aI (decide (IntKind.u64.wrap (IntKind.i64.wrap (IntKind.i64.wrap ((↑(ByteArray.size y0.1.1):Int)-y0.1.2.1) - y0.2.2.2.1)) < y0.2.2.1)) (R (T.aT (W2 y0))) (i7 y0 R)) (i7 y0 R)))) (aI (decide (y0.2.2.2.2=0)) (aI (decide (IntKind.u64.wrap (IntKind.i64.wrap (IntKind.i64.wrap ((↑(ByteArray.size y0.1.1):Int)-y0.1.2.1)-y0.2.2.2.1)) < y0.2.2.1)) (R (T.aT (W2 y0))) (i7 y0 R)) (i7 y0 R)))
theorem EA ( a0 a1 R):dN bD Tryz.prog x5 GP 8 49 [aE true aA a0,aE false (Sy.int IntKind.i64) a1] R=yI a0 a1 R:=by kernel_rfl
abbrev r9:Sh:=[(true,aA),(false,(Sy.int IntKind.i64))]
abbrev z7:Sh:=[(true,aA),(false,Sy.str)]
noncomputable def xZ:Env:=Env.of [(42,.dR jK)]
def GN:FuncId→Hint:=fun _=>bT
theorem IG:aM Tryz.prog xZ:=.cons zF (.nil _)
def XF(y0:aB×Int×sV)(R:T→Prop):Prop:=aI (!decide (y0.2.2.2.2=0)) (R (T.aT [T.agg (LT y0), T.v (.int .i64 0)])) (GE R y0)
def yG(a0:aB)(a1:Int)(R:T→Prop):Prop:=aI (!decide (a0.2.2=0)) (R (T.aT [aE true aA a0,T.v (.int .i64 0)])) (aF f5 (jK [aE true aA a0,T.v (.int .i64 4), T.v (.int .i64 4)]) fun (y0:aB×Int×sV)=>aI (decide (y0.2.2.2.2=0)) (aI (decide (a1<0)) (R (T.aT [T.agg (RK y0), T.v (.int .i64 0)])) (aI (decide (IntKind.u64.wrap a1<y0.2.2.1)) (R (T.aT [T.agg (RK y0), T.v (.int .i64 0)])) (XF y0 R))) (XF y0 R))
theorem D8 ( a0 a1 R):dN bD Tryz.prog xZ GN 8 96 [aE true aA a0,aE false (Sy.int IntKind.i64) a1] R=yG a0 a1 R:=by kernel_rfl
abbrev r7:Sh:=[(true,aA),(false,(Sy.int IntKind.i64))]
abbrev z6:Sh:=[(true,aA),(false,Sy.int IntKind.i64)]
def iM (S:ByteArray) (r:cB):aB:=(S,(S.size:Int)-(r.1.size:Int),r.2)
theorem fK {S:ByteArray} {p:Nat}:(S.extract p S.size).size=S.size-p:=by rw[ByteArray.size_extract];omega
theorem cD {S:ByteArray} {p:Nat} (hp:p≤S.size) {e:Int}:iM S (S.extract p S.size,e)=(S,(p:Int),e):=by
 unfold iM
 rw[fK]
 refine Prod.ext rfl (Prod.ext ?_ rfl)
 show (S.size:Int)-((S.size-p:Nat):Int)=(p:Int)
 omega
theorem rW {S:ByteArray} {p n:Nat} (hp:p+n≤S.size) {e:Int}:iM S ((S.extract p S.size).extract n (S.extract p S.size).size,e)=(S,((p+n:Nat):Int),e):=by
 rw[n4];exact cD hp
def oV (x:aB×Int×Int):Option T:=match FZ x.1 with
 | true=>some (Sh.enc zZ (iM x.1.1 (dE (toR x.1) x.2.1 x.2.2).1,(dE (toR x.1) x.2.1 x.2.2).2))
 | false=>none
noncomputable def bV:List T→Option (T):=gS AF oV
theorem w3 {a0 a1 a2}:bV [aE true aA a0,T.v (.int .i64 a1),
 T.v (.int .i64 a2)]=oV (a0,a1,a2):=cI (s:=AF) rfl (a0,a1,a2) rfl
theorem QB (h:∀ a0 a1 a2 r,oV (a0,a1,a2)=some r→e6 AF (a0,a1,a2)→D7 a0 a1 a2 (fun y=>y=r)):bN Tryz.prog 15 bV :=
 cJ (E:=DR) (Hs:=LF) LB bF bG (aX rfl) 8 ⟨_,_,Tryz.func15,rfl⟩ rfl fun x r h1 h2=>by
  obtain ⟨a0,a1,a2⟩:=x
  rw[show Sh.dI AF (a0,a1,a2)=[aE true aA a0,aE false (Sy.int IntKind.i64) a1,
 aE false (Sy.int IntKind.i64) a2] from rfl,IU]
  exact h a0 a1 a2 r h1 h2
def KI (q:aB) (n:Int):Bool:=FZ q&&decide (n<9223372036854775808)
def oW (x:aB×Int):Option T:=match KI x.1 x.2 with
 | true=>some (Sh.enc z6 (iM x.1.1 (aJ (toR x.1) 4 x.2 false).1,(aJ (toR x.1) 4 x.2 false).2))
 | false=>none
noncomputable def gF:List T→Option (T):=gS r7 oW
theorem FB {a0 a1}:gF [aE true aA a0,T.v (.int .i64 a1)]=oW (a0,a1):=cI (s:=r7) rfl (a0,a1) rfl
theorem NK (h:∀ a0 a1 r,oW (a0,a1)=some r→e6 r7 (a0,a1)→yG a0 a1 (fun y=>y=r)):bN Tryz.prog 96 gF :=
 cJ (E:=xZ) (Hs:=GN) IG bF bG (aX rfl) 8 ⟨_,_,Tryz.func96,rfl⟩ rfl fun x r h1 h2=>by
  obtain ⟨a0,a1⟩:=x
  rw[show Sh.dI r7 (a0,a1)=[aE true aA a0,aE false (Sy.int IntKind.i64) a1] from rfl,D8]
  exact h a0 a1 r h1 h2
def oY (x:aB×Int):Option T:=match KI x.1 x.2 with
 | true=>some (Sh.enc z7 (iM x.1.1 (dS (toR x.1) x.2).1,(dS (toR x.1) x.2).2))
 | false=>none
noncomputable def bY:List T→Option (T):=gS r9 oY
theorem FD {a0 a1}:bY [aE true aA a0,T.v (.int .i64 a1)]=oY (a0,a1):=cI (s:=r9) rfl (a0,a1) rfl
theorem NM (h:∀ a0 a1 r,oY (a0,a1)=some r→e6 r9 (a0,a1)→yI a0 a1 (fun y=>y=r)):bN Tryz.prog 49 bY :=
 cJ (E:=x5) (Hs:=GP) II bF bG (aX rfl) 8 ⟨_,_,Tryz.func49,rfl⟩ rfl fun x r h1 h2=>by
  obtain ⟨a0,a1⟩:=x
  rw[show Sh.dI r9 (a0,a1)=[aE true aA a0,aE false (Sy.int IntKind.i64) a1] from rfl,EA]
  exact h a0 a1 r h1 h2
structure WK (S:ByteArray) (p:Nat):Prop where
 le:p≤S.size
 sm:S.size≤140737488355328
theorem rX {S:ByteArray} {At e0:Int} (h:FZ (S,At,e0)=true):∃ p:Nat,At=(p:Int)∧WK S p:=by
 unfold FZ at h
 simp only[Bool.and_eq_true,decide_eq_true_eq] at h
 obtain ⟨h0,h1,h2⟩:=h
 obtain ⟨p,rfl⟩:=Int.eq_ofNat_of_zero_le h0
 exact ⟨p,rfl,by omega,h2⟩
theorem s7 {S:ByteArray} {p:Nat} (hq:WK S p) {e0 one two:Int} {K:aB×Int×sV→Prop} (h:K ((S,(p:Int),e0),aU (S.extract p S.size) one two)) :
  aF [(true,aA),(false,Sy.int IntKind.i64),(false,Sy.int IntKind.u64),(false,Sy.int IntKind.i64),(false,Sy.int IntKind.i64)] (jK [aE true aA (S,(p:Int),e0),T.v (.int .i64 one),T.v (.int .i64 two)]) K :=
 aQ (s:=F7) (y:=((S,(p:Int),e0),aU (S.extract p S.size) one two)) ((JQ ..).trans (by
  have:FZ (S,(p:Int),e0)=true:=by
   have:=hq.le
   unfold FZ
   rw[decide_eq_true (show (0:Int)≤(p:Int) by omega),decide_eq_true (show (p:Int)≤(S.size:Int) by omega),decide_eq_true hq.sm];rfl
  unfold sE
  dsimp only
  rw[this];rfl)) h
theorem rS:bN Tryz.prog 15 bV:=QB fun a0 a1 a2 r h hb=>by
 clear hb
 obtain ⟨hc,rfl⟩:=DM h
 clear h
 obtain ⟨S,At,e0⟩:=a0
 obtain ⟨p,rfl,hq⟩:=rX hc
 clear hc
 have hp:=hq.le
 have hS:=hq.sm
 unfold D7 m5 GT GE W1 LT f5
 dsimp only
 generalize hR:dE (toR (S,(p:Int),e0)) a1 a2=Rr
 have hR:Rr=dE (S.extract p S.size,e0) a1 a2:=hR.symm
 have out:∀ {y:cB×Int} {q:aB},Rr=y→iM S y.1=q→T.aT [T.agg [T.v (.string q.1),T.v (.int .i64 q.2.1),T.v (.int .i64 q.2.2)],T.v (.int .i64 y.2)]=Sh.enc zZ (iM S Rr.1,Rr.2):=fun h1 h2=>by
  rw[h1,h2];rfl
 refine oC (fun h=>out (y:=((S.extract p S.size,e0),0)) (q:=(S,(p:Int),e0)) (by rw[hR];unfold dE;rw[if_pos h]) (cD hp)) fun h0=>?_
 subst h0
 refine s7 hq ?_
 have rd:Rr=(if ¬ (aU (S.extract p S.size) 0 1).2.2.2=0 then ((S.extract p S.size,(aU (S.extract p S.size) 0 1).2.2.2),0)
  else if ¬ (aU (S.extract p S.size) 0 1).2.1<9223372036854775808 then ((S.extract p S.size,5),0)
  else
   let x:=if (aU (S.extract p S.size) 0 1).1=1 then -1-(aU (S.extract p S.size) 0 1).2.1 else (aU (S.extract p S.size) 0 1).2.1
   if x<a1∨a2<x then ((S.extract p S.size,9),0) else (((S.extract p S.size).extract (aU (S.extract p S.size) 0 1).2.2.1.toNat (S.extract p S.size).size,0),x)):=by
  rw[hR];unfold dE;rw[if_neg (fun h=>h rfl)]
 clear hR
 generalize hk:aU (S.extract p S.size) 0 1=w at rd ⊢
 obtain ⟨k,v,n,e⟩:=w
 dsimp only at rd ⊢
 refine eQ (fun he=>?_) fun he=>?_
 ·subst he
  obtain ⟨_,⟨n1,n2⟩,v1,v2⟩:=iI hk
  rw[fK] at n2
  rw[if_neg (fun h=>h rfl)] at rd
  refine eQ (fun h=>out (y:=((S.extract p S.size,5),0)) (q:=(S,(p:Int),5)) (by rw[rd,if_pos (by omega)]) (cD hp)) fun h=>?_
  rw[if_neg (by omega)] at rd
  refine oC (fun g=>absurd rfl g) fun _=>?_
  have ww:IntKind.i64.wrap v=v:=bB _ (by omega) (by omega)
  have wn:IntKind.i64.wrap (-1-v) = -1-v:=bB _ (by omega) (by omega)
  have wp:IntKind.i64.wrap ((p:Int)+n)=((p+n.toNat:Nat):Int):=by rw[bB _ (by omega) (by omega)];omega
  rw[ww,wn,wp]
  refine eQ (fun hk1=>?_) fun hk1=>?_
  ·rw[if_pos hk1] at rd
   refine eQ (fun h=>out (y:=((S.extract p S.size,9),0)) (q:=(S,(p:Int),9)) (by rw[rd];exact if_pos (.inl h)) (cD hp)) fun h1=>?_
   refine eQ (fun h=>out (y:=((S.extract p S.size,9),0)) (q:=(S,(p:Int),9)) (by rw[rd];exact if_pos (.inr h)) (cD hp)) fun h2=>?_
   exact out (y:=(((S.extract p S.size).extract n.toNat (S.extract p S.size).size,0),-1-v)) (q:=(S,((p+n.toNat:Nat):Int),0)) (by rw[rd];exact if_neg (fun h=>h.elim h1 h2)) (rW (by omega))
  ·rw[if_neg hk1] at rd
   refine eQ (fun h=>out (y:=((S.extract p S.size,9),0)) (q:=(S,(p:Int),9)) (by rw[rd];exact if_pos (.inl h)) (cD hp)) fun h1=>?_
   refine eQ (fun h=>out (y:=((S.extract p S.size,9),0)) (q:=(S,(p:Int),9)) (by rw[rd];exact if_pos (.inr h)) (cD hp)) fun h2=>?_
   exact out (y:=(((S.extract p S.size).extract n.toNat (S.extract p S.size).size,0),v)) (q:=(S,((p+n.toNat:Nat):Int),0)) (by rw[rd];exact if_neg (fun h=>h.elim h1 h2)) (rW (by omega))
 ·exact oC (fun _=>out (y:=((S.extract p S.size,e),0)) (q:=(S,(p:Int),e)) (by rw[rd,if_pos he]) (cD hp)) fun g=>absurd g he
theorem tV:bN Tryz.prog 96 gF:=NK fun a0 a1 r h hb=>by
 clear hb
 obtain ⟨hc,rfl⟩:=DM h
 clear h
 obtain ⟨S,At,e0⟩:=a0
 unfold KI at hc
 rw[Bool.and_eq_true,decide_eq_true_eq] at hc
 obtain ⟨hc,ha⟩:=hc
 dsimp only at ha
 obtain ⟨p,rfl,hq⟩:=rX hc
 clear hc
 have hp:=hq.le
 have hS:=hq.sm
 unfold yG XF RK GE W1 LT f5
 dsimp only
 generalize hR:aJ (toR (S,(p:Int),e0)) 4 a1 false=Rr
 have hR:Rr=aJ (S.extract p S.size,e0) 4 a1 false:=hR.symm
 have out:∀ {y:cB×Int} {q:aB},Rr=y→iM S y.1=q→T.aT [T.agg [T.v (.string q.1),T.v (.int .i64 q.2.1),T.v (.int .i64 q.2.2)],T.v (.int .i64 y.2)]=Sh.enc z6 (iM S Rr.1,Rr.2):=fun h1 h2=>by
  rw[h1,h2];rfl
 refine oC (fun h=>out (y:=((S.extract p S.size,e0),0)) (q:=(S,(p:Int),e0)) (by rw[hR];unfold aJ;rw[if_pos h]) (cD hp)) fun h0=>?_
 subst h0
 refine s7 hq ?_
 have rd:Rr=(if ¬ (aU (S.extract p S.size) 4 4).2.2.2=0 then ((S.extract p S.size,(aU (S.extract p S.size) 4 4).2.2.2),0)
  else if a1<0∨a1<(aU (S.extract p S.size) 4 4).2.1 then ((S.extract p S.size,4),0)
  else (((S.extract p S.size).extract (aU (S.extract p S.size) 4 4).2.2.1.toNat (S.extract p S.size).size,0),(aU (S.extract p S.size) 4 4).2.1)):=by
  rw[hR];unfold aJ;rw[if_neg (fun h=>h rfl)]
  simp only[Bool.false_eq_true,false_and,if_false]
 clear hR
 generalize hk:aU (S.extract p S.size) 4 4=w at rd ⊢
 obtain ⟨k,v,n,e⟩:=w
 dsimp only at rd ⊢
 refine eQ (fun he=>?_) fun he=>?_
 ·subst he
  obtain ⟨_,⟨n1,n2⟩,v1,v2⟩:=iI hk
  rw[fK] at n2
  rw[if_neg (fun h=>h rfl)] at rd
  refine eQ (fun h=>out (y:=((S.extract p S.size,4),0)) (q:=(S,(p:Int),4)) (by rw[rd,if_pos (.inl h)]) (cD hp)) fun h1=>?_
  rw[wrap_u64 (show 0≤a1 by omega) (by omega)]
  refine eQ (fun h=>out (y:=((S.extract p S.size,4),0)) (q:=(S,(p:Int),4)) (by rw[rd,if_pos (.inr h)]) (cD hp)) fun h2=>?_
  rw[if_neg (fun h=>h.elim h1 h2)] at rd
  refine oC (fun g=>absurd rfl g) fun _=>?_
  have ww:IntKind.i64.wrap v=v:=bB _ (by omega) (by omega)
  have wp:IntKind.i64.wrap ((p:Int)+n)=((p+n.toNat:Nat):Int):=by rw[bB _ (by omega) (by omega)];omega
  rw[ww,wp]
  exact out (y:=(((S.extract p S.size).extract n.toNat (S.extract p S.size).size,0),v)) (q:=(S,((p+n.toNat:Nat):Int),0)) rd (rW (by omega))
 ·exact oC (fun _=>out (y:=((S.extract p S.size,e),0)) (q:=(S,(p:Int),e)) (by rw[rd,if_pos he]) (cD hp)) fun g=>absurd g he
theorem tW:bN Tryz.prog 49 bY:=NM fun a0 a1 r h hb=>by
 clear hb
 obtain ⟨hc,rfl⟩:=DM h
 clear h
 obtain ⟨S,At,e0⟩:=a0
 unfold KI at hc
 rw[Bool.and_eq_true,decide_eq_true_eq] at hc
 obtain ⟨hc,ha⟩:=hc
 dsimp only at ha
 obtain ⟨p,rfl,hq⟩:=rX hc
 clear hc
 have hp:=hq.le
 have hS:=hq.sm
 unfold yI W2 RK i7 LT f5
 dsimp only
 generalize hR:dS (toR (S,(p:Int),e0)) a1=Rr
 have hR:Rr=dS (S.extract p S.size,e0) a1:=hR.symm
 have out:∀ {y:cB×ByteArray} {q:aB},Rr=y→iM S y.1=q→T.aT [T.agg [T.v (.string q.1),T.v (.int .i64 q.2.1),T.v (.int .i64 q.2.2)],T.v (.string y.2)]=Sh.enc z7 (iM S Rr.1,Rr.2):=fun h1 h2=>by
  rw[h1,h2];rfl
 have er:∀ {e:Int},aJ (S.extract p S.size,e0) 2 a1 true=((S.extract p S.size,e),0)→Rr=((S.extract p S.size,e),⟨#[]⟩):=fun h=>by
  rw[hR];unfold dS;rw[h];rfl
 refine oC (fun h=>out (y:=((S.extract p S.size,e0),⟨#[]⟩)) (q:=(S,(p:Int),e0)) (er (by unfold aJ;rw[if_pos h])) (cD hp)) fun h0=>?_
 subst h0
 refine s7 hq ?_
 have rd:aJ (S.extract p S.size,0) 2 a1 true=(if ¬ (aU (S.extract p S.size) 2 2).2.2.2=0 then ((S.extract p S.size,(aU (S.extract p S.size) 2 2).2.2.2),0)
  else if a1<0∨a1<(aU (S.extract p S.size) 2 2).2.1 then ((S.extract p S.size,4),0)
  else if ((S.extract p S.size).size:Int)-(aU (S.extract p S.size) 2 2).2.2.1<(aU (S.extract p S.size) 2 2).2.1 then ((S.extract p S.size,3),0)
  else (((S.extract p S.size).extract (aU (S.extract p S.size) 2 2).2.2.1.toNat (S.extract p S.size).size,0),(aU (S.extract p S.size) 2 2).2.1)):=by
  unfold aJ;rw[if_neg (fun h=>h rfl)]
  simp only[true_and]
 generalize hk:aU (S.extract p S.size) 2 2=w at rd ⊢
 obtain ⟨k,v,n,e⟩:=w
 dsimp only at rd ⊢
 refine eQ (fun he=>?_) fun he=>?_
 ·subst he
  obtain ⟨_,⟨n1,n2⟩,v1,v2⟩:=iI hk
  rw[fK] at n2 rd
  rw[if_neg (fun h=>h rfl)] at rd
  refine eQ (fun h=>out (y:=((S.extract p S.size,4),⟨#[]⟩)) (q:=(S,(p:Int),4)) (er (by rw[rd,if_pos (.inl h)])) (cD hp)) fun h1=>?_
  rw[wrap_u64 (show 0≤a1 by omega) (by omega)]
  refine eQ (fun h=>out (y:=((S.extract p S.size,4),⟨#[]⟩)) (q:=(S,(p:Int),4)) (er (by rw[rd,if_pos (.inr h)])) (cD hp)) fun h2=>?_
  rw[if_neg (fun h=>h.elim h1 h2)] at rd
  refine eQ (fun _=>?_) fun g=>absurd rfl g
  have ws:IntKind.u64.wrap (IntKind.i64.wrap (IntKind.i64.wrap ((S.size:Int)-(p:Int))-n))=((S.size-p:Nat):Int)-n:=by
   rw[bB ((S.size:Int)-(p:Int)) (by omega) (by omega),bB _ (by omega) (by omega),wrap_u64 (by omega) (by omega)];omega
  rw[ws]
  refine eQ (fun h=>out (y:=((S.extract p S.size,3),⟨#[]⟩)) (q:=(S,(p:Int),3)) (er (by rw[rd,if_pos h])) (cD hp)) fun h3=>?_
  rw[if_neg h3] at rd
  refine oC (fun g=>absurd rfl g) fun _=>?_
  have ww:IntKind.i64.wrap v=v:=bB _ (by omega) (by omega)
  have wp:IntKind.i64.wrap ((p:Int)+n)=((p+n.toNat:Nat):Int):=by rw[bB _ (by omega) (by omega)];omega
  have wv:IntKind.i64.wrap (((p+n.toNat:Nat):Int)+v)=((p+(n.toNat+v.toNat):Nat):Int):=by rw[bB _ (by omega) (by omega)];omega
  rw[ww,wp,wv,Int.toNat_natCast,Int.toNat_natCast]
  refine ⟨by rw[Bool.and_eq_true,Bool.and_eq_true,Bool.and_eq_true];exact ⟨⟨decide_eq_true (by omega),decide_eq_true (by omega)⟩,decide_eq_true (by omega),decide_eq_true (by omega)⟩,?_⟩
  have hval:S.extract (p+n.toNat) (p+(n.toNat+v.toNat))=((S.extract p S.size).extract n.toNat (S.size-p)).extract 0 v.toNat:=by
   rw[←fK (S:=S) (p:=p),n4]
   refine wH ?_
   rw[ByteArray.data_extract,ByteArray.data_extract,Array.toList_extract,Array.toList_extract,iC,List.extract_eq_take_drop,List.extract_eq_take_drop,List.drop_zero]
   rw[show p+(n.toNat+v.toNat)-(p+n.toNat)=v.toNat-0 by omega]
  refine out (y:=(((S.extract p S.size).extract (n.toNat+v.toNat) (S.extract p S.size).size,0),S.extract (p+n.toNat) (p+(n.toNat+v.toNat)))) (q:=(S,((p+(n.toNat+v.toNat):Nat):Int),0)) ?_ (rW (by omega))
  rw[hR]
  unfold dS
  rw[rd]
  dsimp only
  by_cases hv0:v=0
  ·rw[if_pos hv0]
   have hz:v.toNat=0:=by omega
   rw[hz,Nat.add_zero,fK]
   refine Prod.ext rfl ?_
   show (⟨#[]⟩:ByteArray)=_
   refine wH ?_
   rw[ByteArray.data_extract,Array.toList_extract,List.extract_eq_take_drop,Nat.sub_self,List.take_zero]
  ·rw[if_neg hv0,hval]
   refine Prod.ext (Prod.ext ?_ rfl) rfl
   show ((S.extract p S.size).extract n.toNat (S.size-p)).extract v.toNat ((S.extract p S.size).extract n.toNat (S.size-p)).size=_
   rw[←fK (S:=S) (p:=p),n4]
 ·have rr:∀ A B:Prop,A→aI (decide (e=0)) B A:=fun A B h=>eQ (fun g=>absurd g he) fun _=>h
  refine eQ (fun g=>absurd g he) fun _=>?_
  exact oC (fun _=>out (y:=((S.extract p S.size,e),⟨#[]⟩)) (q:=(S,(p:Int),e)) (er (by rw[rd,if_pos he])) (cD hp)) fun g=>absurd g he
end Go.Pv
namespace Go.Pv
open Go Go.Proofs
noncomputable def xX:Env:=Env.of [(96,.dR gF),(15,.dR bV)]
def GL:FuncId→Hint:=gJ 95 [(3,.inv [.box 0 aA,.own 3 2 aH,.val 4 false (.int .i64)])] (fun _=>bT)
theorem IE:aM Tryz.prog xX:=.cons tV (.cons rS (.nil _))
def d5:Sh:=[(true,aA),(false,Sy.int IntKind.i64)]
def m7(y3:aB×Int):List T:=[aE true aA y3.1, T.v (.int .i64 (-9223372036854775808)), T.v (.int .i64 9223372036854775807)]
def yE(a0:aB)(R:T→Prop):Prop:=aF d5 (gF [aE true aA a0,T.v (.int .i64 32)]) fun (y0:aB×Int)=>eU (aB×List aV×Int×PUnit) (fun X1 s2=>aI (decide (0<s2.2.2.1)) (aF d5 (bV [aE true aA s2.1, T.v (.int .i64 (-9223372036854775808)), T.v (.int .i64 9223372036854775807)]) fun (y3:aB×Int)=>aF d5 (bV (m7 y3)) fun (y4:aB×Int)=>bJ (decide (((List.map aH.enc s2.2.1).length+1)*16≤140737488355328) && decide ((List.map aH.enc s2.2.1).length+1≤140737488355328)) (gR aH (List.map aH.enc s2.2.1 ++ [[T.v (.int .i64 y3.2),T.v (.int .i64 y4.2)]]) fun (y5:List aV)=>X1 ((y4.1.1,y4.1.2.1,y4.1.2.2),y5,IntKind.i64.wrap (s2.2.2.1-1),()))) (R (T.aT [aE true aA s2.1, T.sl false (List.map aH.enc s2.2.1)]))) ((y0.1.1,y0.1.2.1,y0.1.2.2),[],y0.2,())
theorem D5 ( a0 R):dN bD Tryz.prog xX GL 8 95 [aE true aA a0] R=yE a0 R:=by kernel_rfl
abbrev r5:Sh:=[(true,aA)]
abbrev H3:Sh:=[(true,aA),(false,aH.li)]
noncomputable def x6:Env:=Env.of [(96,.dR gF),(49,.dR bY)]
def GQ:FuncId→Hint:=gJ 51 [(3,.inv [.box 0 aA,.own 5 1 .str,.val 6 false (.int .i64)])] (fun _=>bT)
theorem IJ:aM Tryz.prog x6:=.cons tV (.cons tW (.nil _))
def f0:Sh:=[(true,aA),(false,Sy.str)]
def yJ(a0:aB)(a1:Int)(R:T→Prop):Prop:=aF d5 (gF [aE true aA a0,T.v (.int .i64 a1)]) fun (y0:aB×Int)=>eU (aB×List ByteArray×Int×PUnit) (fun X1 s2=>aI (decide (0<s2.2.2.1)) (aF f0 (bY [aE true aA s2.1,T.v (.int .i64 64)]) fun (y3:aB×ByteArray)=>bJ (decide (((List.map Sy.str.enc s2.2.1).length+1)*16≤140737488355328) && decide ((List.map Sy.str.enc s2.2.1).length+1≤140737488355328)) (gR Sy.str (List.map Sy.str.enc s2.2.1++[[T.v (.string y3.2)]]) fun (y4:List ByteArray)=>X1 ((y3.1.1,y3.1.2.1,y3.1.2.2),y4,IntKind.i64.wrap (s2.2.2.1-1),()))) (R (T.aT [aE true aA s2.1, T.sl false (List.map Sy.str.enc s2.2.1)]))) ((y0.1.1,y0.1.2.1,y0.1.2.2),[],y0.2,())
theorem EB ( a0 a1 R):dN bD Tryz.prog x6 GQ 8 51 [aE true aA a0,aE false (Sy.int IntKind.i64) a1] R=yJ a0 a1 R:=by kernel_rfl
abbrev sA:Sh:=[(true,aA),(false,(Sy.int IntKind.i64))]
abbrev H6:Sh:=[(true,aA),(false,Sy.str.li)]
def vO (S:ByteArray) (r:cB):Prop:=RO S r∧S.size≤140737488355328
theorem vO.tl {S:ByteArray} {a b:cB} (h:vO S b) (ht:Tl a b):vO S a:=⟨h.1.tl ht,h.2⟩
theorem toR_ofR {S:ByteArray} {r:cB} (h:vO S r):toR (iM S r)=r:=by
 obtain ⟨⟨h1,h2⟩,_⟩:=h
 unfold toR iM
 refine Prod.ext ?_ rfl
 show S.extract ((S.size:Int)-(r.1.size:Int)).toNat S.size=r.1
 rw[show ((S.size:Int)-(r.1.size:Int)).toNat=S.size-r.1.size by omega]
 exact h1.symm
theorem nK {S:ByteArray} {r:cB} (h:vO S r):FZ (iM S r)=true:=by
 obtain ⟨⟨_,h2⟩,h3⟩:=h
 unfold FZ iM
 rw[Bool.and_eq_true,Bool.and_eq_true]
 exact ⟨decide_eq_true (by show (0:Int)≤(S.size:Int)-(r.1.size:Int);omega),decide_eq_true (by show (S.size:Int)-(r.1.size:Int)≤(S.size:Int);omega),decide_eq_true h3⟩
theorem zR {q:aB} (h:FZ q=true):∃ S r,q=iM S r∧vO S r:=by
 obtain ⟨S,At,e⟩:=q
 obtain ⟨p,rfl,hq⟩:=rX h
 refine ⟨S,(S.extract p S.size,e),(cD hq.le).symm,⟨?_,?_⟩,hq.sm⟩
 ·show S.extract p S.size=S.extract (S.size-(S.extract p S.size).size) S.size
  rw[fK]
  have:=hq.le
  rw[show S.size-(S.size-p)=p by omega]
 ·show (S.extract p S.size).size≤S.size
  rw[fK];omega
theorem cG {S:ByteArray} {r:cB} {K:aB×Int→Prop} (h:vO S r) (hk:vO S (rI r).1→K (iM S (rI r).1,(rI r).2)):aF [(true,aA),(false,.int .i64)] (bV [aE true aA (iM S r),T.v (.int .i64 (-9223372036854775808)),T.v (.int .i64 9223372036854775807)]) K :=
 aQ (s:=zZ) (y:=(iM S (rI r).1,(rI r).2)) ((w3 ..).trans (by unfold oV;dsimp only;rw[nK h,toR_ofR h];rfl)) (hk (h.tl (fF r)))
theorem HS {S:ByteArray} {r:cB} {n:Int} (hn:n<9223372036854775808) (h:vO S r):KI (iM S r) n=true:=by unfold KI;rw[nK h,decide_eq_true hn];rfl
theorem dG {S:ByteArray} {r:cB} {n:Int} (hn:n<9223372036854775808) {K:aB×ByteArray→Prop} (h:vO S r) (hk:vO S (rT n r).1→K (iM S (rT n r).1,(rT n r).2)):aF [(true,aA),(false,.str)] (bY [aE true aA (iM S r),T.v (.int .i64 n)]) K :=
 aQ (s:=z7) (y:=(iM S (rT n r).1,(rT n r).2)) ((FD ..).trans (by unfold oY;dsimp only;rw[HS hn h,toR_ofR h];rfl)) (hk (h.tl (fG n r)))
theorem zU {S:ByteArray} {r:cB} {n:Int} (hn:n<9223372036854775808) {K:aB×Int→Prop} (h:vO S r) (hk:vO S (aJ r 4 n false).1→K (iM S (aJ r 4 n false).1,(aJ r 4 n false).2)):aF [(true,aA),(false,.int .i64)] (gF [aE true aA (iM S r),T.v (.int .i64 n)]) K :=
 aQ (s:=z6) (y:=(iM S (aJ r 4 n false).1,(aJ r 4 n false).2)) ((FB ..).trans (by unfold oW;dsimp only;rw[HS hn h,toR_ofR h];rfl)) (hk (h.tl (lM 4 n false r)))
def oT (q:aB):Option T:=match FZ q with
 | true=>some (Sh.enc H3 (iM q.1 (gB (toR q)).1,(gB (toR q)).2))
 | false=>none
noncomputable def iV:List T→Option (T):=gS r5 oT
theorem E9 {a0}:iV [aE true aA a0]=oT (a0):=cI (s:=r5) rfl (a0) rfl
theorem NI (h:∀ a0 r,oT (a0)=some r→e6 r5 (a0)→yE a0 (fun y=>y=r)):bN Tryz.prog 95 iV :=
 cJ (E:=xX) (Hs:=GL) IE bF bG (aX rfl) 8 ⟨_,_,Tryz.func95,rfl⟩ rfl fun x r h1 h2=>by
  let a0:=x
  rw[show Sh.dI r5 (a0)=[aE true aA a0] from rfl,D5]
  exact h a0 r h1 h2
theorem F0 {N:Int} {k:Nat} (h:N≤1000) (h1:(k:Int)<N):IntKind.i64.wrap (N-(k:Int)-1)=N-((k+1:Nat):Int):=by rw[bB _ (by omega) (by omega)];omega
theorem MB:bN Tryz.prog 95 iV:=NI fun a0 r h hb=>by
 clear hb
 obtain ⟨hc,rfl⟩:=DM h
 clear h
 obtain ⟨S,r,rfl,hq⟩:=zR hc
 clear hc
 rw[toR_ofR hq]
 unfold yE m7 d5
 refine zU (by decide) hq fun hc1=>?_
 have cb:=pG (r:=r) (k:=4) (most:=32) (f:=false) (by decide)
 refine dY (aJ r 4 32 false).2.toNat (fun k s=>s=(iM S (cP K1 k (aJ r 4 32 false).1).1,(cP K1 k (aJ r 4 32 false).1).2,(aJ r 4 32 false).2-(k:Int),())) (Prod.ext rfl (Prod.ext rfl (Prod.ext (Int.sub_zero _).symm rfl))) ?_
 rintro X k s hk rfl hX
 dsimp only
 refine eQ (fun hlt=>?_) fun hge=>?_
 ·refine cG (hc1.tl (eX F6 _ _)) fun h1=>cG h1 fun h2=>⟨hM (by decide) (by rw[List.length_map,gC]) (by omega),cN (r:=aH) rfl (l:=(cP K1 k (aJ r 4 32 false).1).2++[((rI (cP K1 k (aJ r 4 32 false).1).1).2,(rI (rI (cP K1 k (aJ r 4 32 false).1).1).1).2)]) (by rw[List.map_append];rfl) ?_⟩
  exact hX _ (by omega) (by rw[F0 (by omega) (by omega)];rfl)
 ·have:k=(aJ r 4 32 false).2.toNat:=by omega
  subst this
  rfl
def oZ (x:aB×Int):Option T:=match FZ x.1&&(decide (0≤x.2)&&decide (x.2≤300)) with
 | true=>some (Sh.enc H6 (iM x.1.1 (fM x.2 (toR x.1)).1,(fM x.2 (toR x.1)).2))
 | false=>none
noncomputable def kC:List T→Option (T):=gS sA oZ
theorem FE {a0 a1}:kC [aE true aA a0,T.v (.int .i64 a1)]=oZ (a0,a1):=cI (s:=sA) rfl (a0,a1) rfl
theorem NN (h:∀ a0 a1 r,oZ (a0,a1)=some r→e6 sA (a0,a1)→yJ a0 a1 (fun y=>y=r)):bN Tryz.prog 51 kC :=
 cJ (E:=x6) (Hs:=GQ) IJ bF bG (aX rfl) 8 ⟨_,_,Tryz.func51,rfl⟩ rfl fun x r h1 h2=>by
  obtain ⟨a0,a1⟩:=x
  rw[show Sh.dI sA (a0,a1)=[aE true aA a0,aE false (Sy.int IntKind.i64) a1] from rfl,EB]
  exact h a0 a1 r h1 h2
theorem ME:bN Tryz.prog 51 kC:=NN fun a0 n r h hb=>by
 clear hb
 obtain ⟨hc,rfl⟩:=DM h
 rw[Bool.and_eq_true,Bool.and_eq_true,decide_eq_true_eq,decide_eq_true_eq] at hc
 obtain ⟨hc,hn0,hn1⟩:=hc
 dsimp only at hc hn0 hn1
 clear h
 obtain ⟨S,r,rfl,hq⟩:=zR hc
 clear hc
 dsimp only
 rw[toR_ofR hq]
 unfold yJ f0 d5
 refine zU (by omega) hq fun hc1=>?_
 have cb:=pG (r:=r) (k:=4) (most:=n) (f:=false) hn0
 refine dY (aJ r 4 n false).2.toNat (fun k s=>s=(iM S (cP (rT 64) k (aJ r 4 n false).1).1,(cP (rT 64) k (aJ r 4 n false).1).2,(aJ r 4 n false).2-(k:Int),())) (Prod.ext rfl (Prod.ext rfl (Prod.ext (Int.sub_zero _).symm rfl))) ?_
 rintro X k s hk rfl hX
 dsimp only
 refine eQ (fun hlt=>?_) fun hge=>?_
 ·refine dG (by decide) (hc1.tl (eX (fG 64) _ _)) fun _=>⟨hM (by decide) (by rw[List.length_map,gC]) (by omega),cN (r:=.str) rfl (l:=(cP (rT 64) k (aJ r 4 n false).1).2++[(rT 64 (cP (rT 64) k (aJ r 4 n false).1).1).2]) (by rw[List.map_append];rfl) ?_⟩
  exact hX _ (by omega) (by rw[F0 (by omega) (by omega)];rfl)
 ·have:k=(aJ r 4 n false).2.toNat:=by omega
  subst this
  rfl
theorem HW {S:ByteArray} {r:cB} {K:aB×List aV→Prop} (h:vO S r) (hk:vO S (gB r).1→K (iM S (gB r).1,(gB r).2)):aF [(true,aA),(false,aH.li)] (iV [aE true aA (iM S r)]) K :=
 aQ (s:=H3) (y:=(iM S (gB r).1,(gB r).2)) ((E9 ..).trans (by unfold oT;rw[nK h,toR_ofR h];rfl)) (hk (h.tl (jC r)))
theorem HX {S:ByteArray} {r:cB} {n:Int} (hn:(decide (0≤n)&&decide (n≤300))=true) {K:aB×List ByteArray→Prop} (h:vO S r) (hk:vO S (fM n r).1→K (iM S (fM n r).1,(fM n r).2)):aF [(true,aA),(false,Sy.str.li)] (kC [aE true aA (iM S r),T.v (.int .i64 n)]) K :=
 aQ (s:=H6) (y:=(iM S (fM n r).1,(fM n r).2)) ((FE ..).trans (by unfold oZ;dsimp only;rw[nK h,hn,toR_ofR h];rfl)) (hk (h.tl (l9 n r)))
noncomputable def x4:Env:=Env.of [(96,.dR gF),(15,.dR bV),(49,.dR bY),(95,.dR iV)]
def GO:FuncId→Hint:=gJ 50 [(10,.inv [.box 0 aA,.box 2 gP,.pC 2 7 1 (.li aH),.val 4 false (.int .i64)])] (fun _=>bT)
theorem IH:aM Tryz.prog x4:=.cons tV (.cons rS (.cons tW (.cons MB (.nil _))))
def i6:Sh:=[(true,aA),(false,aH.li)]
def m9(s11:aB×fR×List (List aV)×Int×PUnit)(X10: aB×fR×List (List aV)×Int×PUnit→Prop):Prop:=aF i6 (iV [aE true aA s11.1]) fun (y12:aB×List aV)=>bJ (decide (((List.map aH.li.enc s11.2.2.1).length+1)*24 ≤ 140737488355328) && decide ((List.map aH.li.enc s11.2.2.1).length+1≤140737488355328)) (gR aH (List.map aH.enc s11.2.1.2.2.2.2.2.2.1.1) fun (y13:List aV)=>gR aH.li [] fun (y14:List (List aV))=>gR aH.li (List.map aH.li.enc s11.2.2.1 ++ [[T.sl false (List.map aH.enc y12.2)]]) fun (y15:List (List aV))=>X10 ((y12.1.1,y12.1.2.1,y12.1.2.2), (s11.2.1.1,s11.2.1.2.1,s11.2.1.2.2.1, s11.2.1.2.2.2.1,s11.2.1.2.2.2.2.1, s11.2.1.2.2.2.2.2.1,(y13,y14), s11.2.1.2.2.2.2.2.2.2.1, s11.2.1.2.2.2.2.2.2.2.2.1, s11.2.1.2.2.2.2.2.2.2.2.2.1, (s11.2.1.2.2.2.2.2.2.2.2.2.2.1.1, s11.2.1.2.2.2.2.2.2.2.2.2.2.1.2.1, s11.2.1.2.2.2.2.2.2.2.2.2.2.1.2.2), (s11.2.1.2.2.2.2.2.2.2.2.2.2.2.1.1, s11.2.1.2.2.2.2.2.2.2.2.2.2.2.1.2.1, s11.2.1.2.2.2.2.2.2.2.2.2.2.2.1.2.2), s11.2.1.2.2.2.2.2.2.2.2.2.2.2.2), y15,IntKind.i64.wrap (s11.2.2.2.1-1),()))
def EQ(y0:aB×ByteArray):List T:=[aE true aA y0.1, T.v (.int .i64 (-9223372036854775808)), T.v (.int .i64 9223372036854775807)]
def XG(y2:aB×Int):List T:=[aE true aA y2.1,T.v (.int .i64 64)]
def yH(a0:aB)(R:T→Prop):Prop:=aF f0 (bY [aE true aA a0,T.v (.int .i64 64)]) fun (y0:aB×ByteArray)=>aF d5 (bV (EQ y0)) fun (y1:aB×Int)=>aF d5 (bV (m7 y1)) fun (y2:aB×Int)=>aF f0 (bY (XG y2)) fun (y3:aB×ByteArray)=>aF f0 (bY [aE true aA y3.1,T.v (.int .i64 16)]) fun (y4:aB×ByteArray)=>aF d5 (bV (EQ y4)) fun (y5:aB×Int)=>aF i6 (iV [aE true aA y5.1]) fun (y6:aB×List aV)=>aF d5 (gF [aE true aA y6.1,T.v (.int .i64 8)]) fun (y7:aB×Int)=>gR aH (List.map aH.enc y6.2) fun (y8:List aV)=>gR aH.li [] fun (y9:List (List aV))=>eU (aB×fR×List (List aV)×Int×PUnit) (fun (X10 : aB×fR×List (List aV)×Int×PUnit→Prop) (s11:aB×fR×List (List aV)×Int×PUnit)=>aI (decide (0<s11.2.2.2.1)) (G0 (m9 s11 X10) (m9 s11 X10)) (aF f0 (bY [aE true aA s11.1, T.v (.int .i64 16)]) fun (y20:aB×ByteArray)=>aF d5 (bV (EQ y20)) fun (y21:aB×Int)=>aF d5 (bV (m7 y21)) fun (y22:aB×Int)=>aF d5 (bV (m7 y22)) fun (y23:aB×Int)=>aF d5 (bV (m7 y23)) fun (y24:aB×Int)=>aF d5 (bV (m7 y24)) fun (y25:aB×Int)=>aF d5 (bV (m7 y25)) fun (y26:aB×Int)=>aF d5 (bV (m7 y26)) fun (y27:aB×Int)=>aF d5 (bV (m7 y27)) fun (y28:aB×Int)=>aF d5 (bV (m7 y28)) fun (y29:aB×Int)=>aI (!decide (y29.1.2.2=0)) (R (T.aT [aE true aA y29.1, T.agg d8])) (R (T.aT [aE true aA y29.1, T.agg [T.v (.string s11.2.1.1), T.v (.int .i64 s11.2.1.2.1), T.v (.int .i64 s11.2.1.2.2.1), T.v (.string s11.2.1.2.2.2.1), T.v (.string s11.2.1.2.2.2.2.1), T.v (.int .i64 s11.2.1.2.2.2.2.2.1), T.sl false (List.map aH.enc s11.2.1.2.2.2.2.2.2.1.1), T.sl false (List.map aH.li.enc s11.2.2.1), T.v (.string y20.2), T.v (.int .i64 y21.2), T.v (.int .i64 y22.2), T.v (.int .i64 y23.2), T.v (.int .i64 y24.2), T.v (.int .i64 y25.2), T.v (.int .i64 y26.2), T.v (.int .i64 y27.2), T.v (.int .i64 y28.2), T.v (.int .i64 y29.2)]])))) ((y7.1.1,y7.1.2.1,y7.1.2.2), (y0.2,y1.2,y2.2,y3.2,y4.2,y5.2,(y8,y9),{data:=#[]},0,0,(0,0,0), (0,0,0),0), [],y7.2,())
theorem D9 ( a0 R):dN bD Tryz.prog x4 GO 8 50 [aE true aA a0] R=yH a0 R:=by kernel_rfl
abbrev r8:Sh:=[(true,aA)]
abbrev H5:Sh:=[(true,aA),(true,gP)]
def oX (q:aB):Option T:=match FZ q with
 | true=>some (Sh.enc H5 (iM q.1 (fU (toR q)).1,(fU (toR q)).2))
 | false=>none
noncomputable def l6:List T→Option (T):=gS r8 oX
theorem FC {a0}:l6 [aE true aA a0]=oX (a0):=cI (s:=r8) rfl (a0) rfl
theorem NL (h:∀ a0 r,oX (a0)=some r→e6 r8 (a0)→yH a0 (fun y=>y=r)):bN Tryz.prog 50 l6 :=
 cJ (E:=x4) (Hs:=GO) IH bF bG (aX rfl) 8 ⟨_,_,Tryz.func50,rfl⟩ rfl fun x r h1 h2=>by
  let a0:=x
  rw[show Sh.dI r8 (a0)=[aE true aA a0] from rfl,D9]
  exact h a0 r h1 h2
theorem MD:bN Tryz.prog 50 l6:=NL fun a0 r h hb=>by
 clear hb
 obtain ⟨hc,rfl⟩:=DM h
 clear h
 obtain ⟨S,a0,rfl,hq⟩:=zR hc
 clear hc
 rw[toR_ofR hq]
 unfold yH XG EQ m9 m7 i6 f0 d8 d5
 refine dG (by decide) hq fun h=>cG h fun h=>cG h fun h=>dG (by decide) h fun h=>dG (by decide) h fun h=>cG h fun h=>HW h fun h=>zU (by decide) h fun hc1=>?_
 clear h
 refine cN (r:=aH) rfl rfl (cN (r:=aH.li) (l:=[]) rfl rfl ?_)
 generalize hH:bU (rT 64) (bU rI (bU rI (bU (rT 64) (bU (rT 16) (bU rI gB))))) a0=H
 have e0:nM a0=((xH H.1).1,(H.2.1,H.2.2.1,H.2.2.2.1,H.2.2.2.2.1,H.2.2.2.2.2.1,H.2.2.2.2.2.2.1,(H.2.2.2.2.2.2.2,(xH H.1).2.1),(xH H.1).2.2)):=by rw[←hH];rfl
 have cb:=pG (r:=H.1) (k:=4) (most:=8) (f:=false) (by decide)
 have hc1:vO S (aJ H.1 4 8 false).1:=by rw[←hH];exact hc1
 refine dY (aJ H.1 4 8 false).2.toNat (fun k s=>s=(iM S (cP gB k (aJ H.1 4 8 false).1).1,(H.2.1,H.2.2.1,H.2.2.2.1,H.2.2.2.2.1,H.2.2.2.2.2.1,H.2.2.2.2.2.2.1,(H.2.2.2.2.2.2.2,[]),⟨#[]⟩,0,0,(0,0,0),(0,0,0),0),(cP gB k (aJ H.1 4 8 false).1).2,(aJ H.1 4 8 false).2-(k:Int),())) (by rw[←hH];exact Prod.ext rfl (Prod.ext rfl (Prod.ext rfl (Prod.ext (Int.sub_zero _).symm rfl)))) ?_
 rintro X k s hk rfl hX
 dsimp only
 refine eQ (fun hlt=>?_) fun hge=>?_
 ·refine wJ (HW (hc1.tl (eX jC _ _)) fun _=>⟨hM (by decide) (by rw[List.length_map,gC]) (by omega),cN (r:=aH) rfl rfl (cN (r:=aH.li) (l:=[]) rfl rfl (cN (r:=aH.li) rfl (l:=(cP gB k (aJ H.1 4 8 false).1).2++[(gB (cP gB k (aJ H.1 4 8 false).1).1).2]) (by rw[List.map_append];rfl) ?_))⟩)
  exact hX _ (by omega) (by rw[F0 (by omega) (by omega)];rfl)
 ·have:k=(aJ H.1 4 8 false).2.toNat:=by omega
  subst this
  refine dG (by decide) (hc1.tl (eX jC _ _)) fun h=>cG h fun h=>cG h fun h=>cG h fun h=>cG h fun h=>cG h fun h=>cG h fun h=>cG h fun h=>cG h fun h=>cG h fun h=>?_
  refine oC (fun he=>?_) fun he=>?_
  ·have e1:fU a0=((nM a0).1,AO):=if_neg (by rw[e0];exact he)
   rw[e1,e0];rfl
  ·have e1:fU a0=nM a0:=if_pos (by rw[e0];exact he)
   rw[e1,e0];rfl
theorem QF {S:ByteArray} {r:cB} {K:aB×fR→Prop} (h:vO S r) (hk:vO S (fU r).1→K (iM S (fU r).1,(fU r).2)):aF [(true,aA),(true,gP)] (l6 [aE true aA (iM S r)]) K :=
 aQ (s:=H5) (y:=(iM S (fU r).1,(fU r).2)) ((FC ..).trans (by unfold oX;rw[nK h,toR_ofR h];rfl)) (hk (h.tl (u4 r)))
noncomputable def xY:Env:=Env.of [(15,.dR bV),(49,.dR bY),(50,.dR l6),(51,.dR kC)]
def GM:FuncId→Hint:=fun _=>bT
theorem IF:aM Tryz.prog xY:=.cons rS (.cons tW (.cons MD (.cons ME (.nil _))))
def W7(y1:aB×ByteArray):List T:=[aE true aA y1.1,T.v (.int .i64 64)]
def XB(y15:aB×List ByteArray):List T:=[aE true aA y15.1, T.v (.int .i64 (-9223372036854775808)), T.v (.int .i64 9223372036854775807)]
def XH(y12:aB×Int):List T:=[aE true aA y12.1, T.v (.int .i64 64)]
def yF(a0:aB)(R:T→Prop):Prop:=aF d5 (bV [aE true aA a0,T.v (.int .i64 (-9223372036854775808)), T.v (.int .i64 9223372036854775807)]) fun (y0:aB×Int)=>aF f0 (bY (XG y0)) fun (y1:aB×ByteArray)=>aF f0 (bY (W7 y1)) fun (y2:aB×ByteArray)=>aF f0 (bY (W7 y2)) fun (y3:aB×ByteArray)=>aF d5 (bV (EQ y3)) fun (y4:aB×Int)=>aF f0 (bY (XG y4)) fun (y5:aB×ByteArray)=>aF [(true,aA),(true,gP)] (l6 [aE true aA y5.1]) fun (y6:aB×fR)=>aF f0 (bY [aE true aA y6.1,T.v (.int .i64 64)]) fun (y7:aB×ByteArray)=>aF f0 (bY (W7 y7)) fun (y8:aB×ByteArray)=>aF f0 (bY (W7 y8)) fun (y9:aB×ByteArray)=>aF d5 (bV (EQ y9)) fun (y10:aB×Int)=>aF d5 (bV (m7 y10)) fun (y11:aB×Int)=>aF d5 (bV (m7 y11)) fun (y12:aB×Int)=>aF f0 (bY (XH y12)) fun (y13:aB×ByteArray)=>aF f0 (bY [aE true aA y13.1, T.v (.int .i64 64)]) fun (y14:aB×ByteArray)=>aF [(true,aA),(false,Sy.str.li)] (kC [aE true aA y14.1, T.v (.int .i64 256)]) fun (y15:aB×List ByteArray)=>aF d5 (bV (XB y15)) fun (y16:aB×Int)=>aF [(true,aA),(false,Sy.str.li)] (kC (XH y16)) fun (y17:aB×List ByteArray)=>aF d5 (bV (XB y17)) fun (y18:aB×Int)=>aF f0 (bY (XH y18)) fun (y19:aB×ByteArray)=>aF f0 (bY [aE true aA y19.1, T.v (.int .i64 64)]) fun (y20:aB×ByteArray)=>aI (!decide (y20.1.2.2=0)) (R (T.aT [aE true aA y20.1, T.agg d6])) (R (T.aT [aE true aA y20.1, T.agg [T.v (.int .i64 y0.2), T.v (.string y1.2), T.v (.string y2.2), T.v (.string y3.2), T.v (.int .i64 y4.2), T.v (.string y5.2), T.v (.string y6.2.1), T.v (.int .i64 y6.2.2.1), T.v (.int .i64 y6.2.2.2.1), T.v (.string y6.2.2.2.2.1), T.v (.string y6.2.2.2.2.2.1), T.v (.int .i64 y6.2.2.2.2.2.2.1), T.sl false (List.map aH.enc y6.2.2.2.2.2.2.2.1.1), T.sl false (List.map aH.li.enc y6.2.2.2.2.2.2.2.1.2), T.v (.string y6.2.2.2.2.2.2.2.2.1), T.v (.int .i64 y6.2.2.2.2.2.2.2.2.2.1), T.v (.int .i64 y6.2.2.2.2.2.2.2.2.2.2.1), T.v (.int .i64 y6.2.2.2.2.2.2.2.2.2.2.2.1.1), T.v (.int .i64 y6.2.2.2.2.2.2.2.2.2.2.2.1.2.1), T.v (.int .i64 y6.2.2.2.2.2.2.2.2.2.2.2.1.2.2), T.v (.int .i64 y6.2.2.2.2.2.2.2.2.2.2.2.2.1.1), T.v (.int .i64 y6.2.2.2.2.2.2.2.2.2.2.2.2.1.2.1), T.v (.int .i64 y6.2.2.2.2.2.2.2.2.2.2.2.2.1.2.2), T.v (.int .i64 y6.2.2.2.2.2.2.2.2.2.2.2.2.2), T.v (.string y7.2), T.v (.string y8.2), T.v (.string y9.2), T.v (.int .i64 y10.2), T.v (.int .i64 y11.2), T.v (.int .i64 y12.2), T.v (.string y13.2), T.v (.string y14.2), T.sl false (List.map Sy.str.enc y15.2), T.v (.int .i64 y16.2), T.sl false (List.map Sy.str.enc y17.2), T.v (.int .i64 y18.2), T.v (.string y19.2), T.v (.string y20.2)]]))
theorem D6 ( a0 R):dN bD Tryz.prog xY GM 8 17 [aE true aA a0] R=yF a0 R:=by kernel_rfl
abbrev r6:Sh:=[(true,aA)]
abbrev H4:Sh:=[(true,aA),(true,eZ)]
def oU (q:aB):Option T:=match FZ q with
 | true=>some (Sh.enc H4 (iM q.1 (gK (toR q)).1,(gK (toR q)).2))
 | false=>none
noncomputable def oA:List T→Option (T):=gS r6 oU
theorem FA {a0}:oA [aE true aA a0]=oU (a0):=cI (s:=r6) rfl (a0) rfl
theorem NJ (h:∀ a0 r,oU (a0)=some r→e6 r6 (a0)→yF a0 (fun y=>y=r)):bN Tryz.prog 17 oA :=
 cJ (E:=xY) (Hs:=GM) IF bF bG (aX rfl) 8 ⟨_,_,Tryz.func17,rfl⟩ rfl fun x r h1 h2=>by
  let a0:=x
  rw[show Sh.dI r6 (a0)=[aE true aA a0] from rfl,D6]
  exact h a0 r h1 h2
theorem MC:bN Tryz.prog 17 oA:=NJ fun a0 r h hb=>by
 clear hb
 obtain ⟨hc,rfl⟩:=DM h
 clear h
 obtain ⟨S,a0,rfl,hq⟩:=zR hc
 clear hc
 rw[toR_ofR hq]
 unfold yF XH XG XB W7 EQ m7 f0 d6 d5
 refine cG hq fun h=>dG (by decide) h fun h=>dG (by decide) h fun h=>dG (by decide) h fun h=>cG h fun h=>dG (by decide) h fun h=>QF h fun h=>?_
 refine dG (by decide) h fun h=>dG (by decide) h fun h=>dG (by decide) h fun h=>cG h fun h=>cG h fun h=>cG h fun h=>?_
 refine dG (by decide) h fun h=>dG (by decide) h fun h=>HX (by decide) h fun h=>cG h fun h=>HX (by decide) h fun h=>?_
 refine cG h fun h=>dG (by decide) h fun h=>dG (by decide) h fun h=>?_
 refine oC (fun he=>?_) fun he=>?_
 ·have e1:gK a0=((pW a0).1,p5):=if_neg he
  rw[e1];rfl
 ·have e1:gK a0=pW a0:=if_pos he
  rw[e1];rfl
end Go.Pv
namespace Go.Pv
open Go Go.Proofs
end Go.Pv
namespace Go.Pv
open Go Go.Proofs
noncomputable def qN {α:Type} (a b:α):Bool:=@decide (a=b) (Classical.propDecidable _)
theorem cU {α:Type} {a b:α}:qN a b=true↔a=b:=by unfold qN;exact @decide_eq_true_iff _ (Classical.propDecidable _)
@[simp] theorem UD {α:Type} (a:α):qN a a=true:=cU.2 rfl
theorem yZ {α:Type} {a b:α} (h:¬ a=b):qN a b=false:=by
 cases hc:qN a b with
 | false=>rfl
 | true=>exact absurd (cU.1 hc) h
theorem CJ (c d:Bool) (r:T):aI c (T.v (.bool d)=r) (T.v (.bool false)=r)=(T.v (.bool (c&&d))=r):=by cases c<;>simp[aI]
theorem w5 (c d:Bool) (r:T):aI (!c) (T.v (.bool false)=r) (T.v (.bool d)=r)=(T.v (.bool (c&&d))=r):=by cases c<;>simp[aI]
theorem QX (x:Bool):Sh.enc AP x=T.v (.bool x):=rfl
theorem u5 (y:Bool) (K:Bool→Prop):aF [(false,Sy.bool)] (some (Sh.enc AP y)) K=K y:=I4 (s:=AP) rfl y K
theorem KX {r:Sy} {l m:List r.den} (hlen:l.length=m.length) (hl:l.length≤2 ^ 47) (test:r.den→r.den→Bool) (ht:∀ x y,test x y=true↔x=y) {R:T→Prop} (hR:R (T.v (.bool (qN l m)))) :
  eU (Int×PUnit) (fun (X:Int×PUnit→Prop) (s:Int×PUnit)=>aI (decide (s.1<(↑(List.map r.enc l).length:Int))) (gV r (List.map r.enc l) s.1 fun y=>gV r (List.map r.enc m) s.1 fun z=>aI (!(test y z)) (R (T.v (.bool false))) (X (IntKind.i64.wrap (s.1+1),()))) (R (T.v (.bool true)))) (0,()):=by
 refine dY l.length (fun k s=>s=((k:Int),())∧(l=m↔l.drop k=m.drop k)) ⟨rfl,by simp⟩ ?_
 rintro X k s hk ⟨rfl,he⟩ hX
 dsimp only
 by_cases hlt:k<l.length
 ·have hlt2:k<m.length:=by omega
  refine MN (by simp[hlt]) ?_
  rw[DA hlt,DA hlt2]
  rw[List.drop_eq_getElem_cons hlt,List.drop_eq_getElem_cons hlt2,List.cons.injEq] at he
  by_cases h1:l[k]=m[k]
  ·rw[(ht _ _).2 h1,Bool.not_true,FL]
   refine hX _ hlt ⟨by rw[show IntKind.i64.wrap ((k:Int)+1)=((k+1:Nat):Int) from bB _ (by omega) (by omega)],?_⟩
   rw[he];exact ⟨fun h=>h.2,fun h=>⟨h1,h⟩⟩
  ·have:test l[k] m[k]=false:=by
    cases hc:test l[k] m[k] with
    | false=>rfl
    | true=>exact absurd ((ht _ _).1 hc) h1
   rw[this,Bool.not_false,FM]
   rwa[yZ fun h=>h1 (he.1 h).1] at hR
 ·have:k=l.length:=by omega
  subst this
  refine PW (by simp) ?_
  rwa[cU.2 (he.2 (by rw[List.drop_length,hlen,List.drop_length]))] at hR
theorem vE {r:Sy} {l m:List r.den} (hl:l.length≤2 ^ 47) (test:r.den→r.den→Bool) (ht:∀ x y,test x y=true↔x=y) {R:T→Prop} (hR:R (T.v (.bool (qN l m)))) :
  aI (!decide ((↑(List.map r.enc l).length:Int)=(↑(List.map r.enc m).length:Int))) (R (T.v (.bool false))) (eU (Int×PUnit) (fun (X:Int×PUnit→Prop) (s:Int×PUnit)=>aI (decide (s.1<(↑(List.map r.enc l).length:Int))) (gV r (List.map r.enc l) s.1 fun y=>gV r (List.map r.enc m) s.1 fun z=>aI (!(test y z)) (R (T.v (.bool false))) (X (IntKind.i64.wrap (s.1+1),()))) (R (T.v (.bool true)))) (0,())):=by
 by_cases hlen:l.length=m.length
 ·rw[show (!decide ((↑(List.map r.enc l).length:Int)=(↑(List.map r.enc m).length:Int)))=false by simp[hlen],FL]
  exact KX hlen hl test ht hR
 ·rw[show (!decide ((↑(List.map r.enc l).length:Int)=(↑(List.map r.enc m).length:Int)))=true by simp;omega,FM]
  rwa[yZ fun h=>hlen (by rw[h])] at hR
noncomputable def j2 (x:List aV×List aV):Option T:=some (Sh.enc AP (qN x.1 x.2))
noncomputable def j3 (x:sU×sU):Option T:=some (Sh.enc AP (qN x.1 x.2))
noncomputable def jE (x:fR×fR):Option T:=some (Sh.enc AP (qN x.1 x.2))
noncomputable def lV (x:List ByteArray×List ByteArray):Option T:=some (Sh.enc AP (qN x.1 x.2))
noncomputable def jD (x:jQ×jQ):Option T:=some (Sh.enc AP (qN x.1 x.2))
noncomputable def K7:Env:=Env.of []
def LI:FuncId→Hint:=gJ 239 [(4,.inv [.val 5 false (.int .i64)])] (fun _=>bT)
theorem D0:aM Tryz.prog K7:=.nil _
def d7:T:=T.v (.bool false)
def XC(a0:List aV):List (List T):=List.map aH.enc a0
def sR(a0:List aV)(a1:List aV)(R:T→Prop):Prop:=aI (!decide ((↑(XC a0).length:Int)=(↑(XC a1).length:Int))) (R d7) (eU (Int×PUnit) (fun X0 s1=>aI (decide (s1.1<(↑(XC a0).length:Int))) (gV aH (XC a0) s1.1 fun (y2:aV)=>gV aH (XC a1) s1.1 fun (y3:aV)=>aI (!(decide (y2.1=y3.1)&&(decide (y2.2=y3.2)&&true))) (R d7) (X0 (IntKind.i64.wrap (s1.1+1),()))) (R (T.v (.bool true)))) (0,()))
abbrev vA:Sh:=[(false,aH.li),(false,aH.li)]
noncomputable def jV:List T→Option T:=gS vA j2
theorem CF {a0 a1}:jV [T.sl false (List.map aH.enc a0),T.sl false (List.map aH.enc a1)]=j2 (a0,a1):=cI (s:=vA) rfl (a0,a1) rfl
theorem KG:O1 Tryz.prog 239 jV j2 (e6 vA) sR:=zP (a1:=(false,aH.li)) (a2:=(false,aH.li)) (sp:=j2) (F:=sR) (Hs:=LI) (f:=239) (k:=8) D0 bF bG (aX rfl) ⟨_,_,Tryz.func239,rfl⟩ rfl fun _ _ _=>by kernel_rfl
theorem JL:bE Tryz.prog 239 jV:=KG fun a b r h hb=>by
 cases h
 unfold sR XC d7
 refine vE (r:=aH) (R:=fun y=>y=Sh.enc AP (qN a b)) hb.1.1 _ (fun x y=>?_) rfl
 simp only[Bool.and_true,Bool.and_eq_true,decide_eq_true_eq,Prod.ext_iff]
noncomputable def K8:Env:=Env.of [(239,.pure jV)]
def LJ:FuncId→Hint:=gJ 86 [(4,.inv [.val 5 false (.int .i64)])] (fun _=>bT)
theorem D1:aM Tryz.prog K8:=.cons JL (.nil _)
def f7:Sh:=[(false,Sy.bool)]
def XD(a0:sU):List (List T):=List.map aH.li.enc a0.2
def sS(a0:sU)(a1:sU)(R:T→Prop):Prop:=aF f7 (jV [T.sl false (List.map aH.enc a0.1),T.sl false (List.map aH.enc a1.1)]) fun (y0:Bool)=>aI (!y0) (R d7) (aI (!decide ((↑(XD a0).length:Int) = (↑(XD a1).length:Int))) (R d7) (eU (Int×PUnit) (fun X1 s2=>aI (decide (s2.1<(↑(XD a0).length:Int))) (gV aH.li (XD a0) s2.1 fun (y3:List aV)=>gV aH.li (XD a1) s2.1 fun (y4:List aV)=>aF f7 (jV [T.sl false (XC y3),T.sl false (XC y4)]) fun (y5:Bool)=>aI (!y5) (R d7) (X1 (IntKind.i64.wrap (s2.1+1),()))) (R (T.v (.bool true)))) (0,())))
abbrev vB:Sh:=[(true,kP),(true,kP)]
noncomputable def lG:List T→Option T:=gS vB j3
theorem CG {a0 a1}:lG [aE true kP a0,aE true kP a1]=j3 (a0,a1):=cI (s:=vB) rfl (a0,a1) rfl
theorem KH:O1 Tryz.prog 86 lG j3 (e6 vB) sS:=zP (a1:=(true,kP)) (a2:=(true,kP)) (sp:=j3) (F:=sS) (Hs:=LJ) (f:=86) (k:=8) D1 bF bG (aX rfl) ⟨_,_,Tryz.func86,rfl⟩ rfl fun _ _ _=>by kernel_rfl
theorem JM:bE Tryz.prog 86 lG:=KH fun a b r h hb=>by
 cases h
 unfold sS XD XC f7 d7
 have u:=@CF
 simp only[u,j2,u5]
 by_cases h1:a.1=b.1
 ·rw[cU.2 h1,Bool.not_true,FL]
  refine vE (r:=.li aH) (R:=fun y=>y=Sh.enc AP (qN a b)) hb.1.2.1 _ (fun x y=>cU) ?_
  show T.v (.bool (qN a.2 b.2))=T.v (.bool (qN a b))
  congr 2
  rw[Bool.eq_iff_iff,cU,cU,Prod.ext_iff]
  exact ⟨fun h=>⟨h1,h⟩,fun h=>h.2⟩
 ·rw[yZ h1,Bool.not_false,FM,yZ fun h=>h1 (by rw[h])];rfl
noncomputable def DT:Env:=Env.of [(86,.pure lG)]
def EH:FuncId→Hint:=fun _=>bT
theorem yC:aM Tryz.prog DT:=.cons JM (.nil _)
def mZ(a0:fR)(a1:fR)(R:T→Prop):Prop:=aI (!decide (a0.1=a1.1)) (R d7) (aI (!decide (a0.2.1=a1.2.1)) (R d7) (aI (!decide (a0.2.2.1=a1.2.2.1)) (R d7) (aI (!decide (a0.2.2.2.1=a1.2.2.2.1)) (R d7) (aI (!decide (a0.2.2.2.2.1=a1.2.2.2.2.1)) (R d7) (aI (!decide (a0.2.2.2.2.2.1=a1.2.2.2.2.2.1)) (R d7) (aF f7 (lG [aE true kP a0.2.2.2.2.2.2.1, aE true kP a1.2.2.2.2.2.2.1]) fun (y0:Bool)=>aI y0 (aI (decide (a0.2.2.2.2.2.2.2.1=a1.2.2.2.2.2.2.2.1)) (aI (decide (a0.2.2.2.2.2.2.2.2.1=a1.2.2.2.2.2.2.2.2.1)) (aI (decide (a0.2.2.2.2.2.2.2.2.2.1=a1.2.2.2.2.2.2.2.2.2.1)) (aI (decide (a0.2.2.2.2.2.2.2.2.2.2.1.1 = a1.2.2.2.2.2.2.2.2.2.2.1.1) && (decide (a0.2.2.2.2.2.2.2.2.2.2.1.2.1 = a1.2.2.2.2.2.2.2.2.2.2.1.2.1) && (decide (a0.2.2.2.2.2.2.2.2.2.2.1.2.2 = a1.2.2.2.2.2.2.2.2.2.2.1.2.2) && true))) (R (T.v (.bool (decide (a0.2.2.2.2.2.2.2.2.2.2.2.1.1 = a1.2.2.2.2.2.2.2.2.2.2.2.1.1) && (decide (a0.2.2.2.2.2.2.2.2.2.2.2.1.2.1 = a1.2.2.2.2.2.2.2.2.2.2.2.1.2.1) && (decide (a0.2.2.2.2.2.2.2.2.2.2.2.1.2.2 = a1.2.2.2.2.2.2.2.2.2.2.2.1.2.2) && true)) && (decide (a0.2.2.2.2.2.2.2.2.2.2.2.2 = a1.2.2.2.2.2.2.2.2.2.2.2.2) && true))))) (R d7)) (R d7)) (R d7)) (R d7)) (R d7)))))))
abbrev nQ:Sh:=[(true,gP),(true,gP)]
noncomputable def iE:List T→Option T:=gS nQ jE
theorem vX {a0 a1}:iE [aE true gP a0,aE true gP a1]=jE (a0,a1):=cI (s:=nQ) rfl (a0,a1) rfl
theorem CX:O1 Tryz.prog 38 iE jE (e6 nQ) mZ:=zP (a1:=(true,gP)) (a2:=(true,gP)) (sp:=jE) (F:=mZ) (Hs:=EH) (f:=38) (k:=8) yC bF bG (aX rfl) ⟨_,_,Tryz.func38,rfl⟩ rfl fun _ _ _=>by kernel_rfl
theorem B3:bE Tryz.prog 38 iE:=CX fun a b r h hb=>by
 cases h
 unfold mZ f7 d7
 simp only[CG,j3,u5]
 simp only[QX,CJ,w5]
 congr 2
 rw[Bool.eq_iff_iff,cU]
 simp only[Bool.and_true,Bool.and_eq_true,decide_eq_true_eq,cU,Prod.ext_iff,and_assoc]
noncomputable def OY:Env:=Env.of []
def O0:FuncId→Hint:=gJ 28 [(4,.inv [.val 5 false (.int .i64)])] (fun _=>bT)
theorem IQ:aM Tryz.prog OY:=.nil _
def yO(a0:List ByteArray)(a1:List ByteArray)(R:T→Prop):Prop:=aI (!decide ((↑(List.map Sy.str.enc a0).length:Int)=(↑(List.map Sy.str.enc a1).length:Int))) (R d7) (eU (Int×PUnit) (fun X0 s1=>aI (decide (s1.1<(↑(List.map Sy.str.enc a0).length:Int))) (gV Sy.str (List.map Sy.str.enc a0) s1.1 fun (y2:ByteArray)=>gV Sy.str (List.map Sy.str.enc a1) s1.1 fun (y3:ByteArray)=>aI (!decide (y2=y3)) (R d7) (X0 (IntKind.i64.wrap (s1.1+1),()))) (R (T.v (.bool true)))) (0,()))
abbrev AH:Sh:=[(false,Sy.str.li),(false,Sy.str.li)]
noncomputable def l7:List T→Option T:=gS AH lV
theorem FI {a0 a1}:l7 [T.sl false (List.map Sy.str.enc a0),T.sl false (List.map Sy.str.enc a1)]=lV (a0,a1):=cI (s:=AH) rfl (a0,a1) rfl
theorem NS:O1 Tryz.prog 28 l7 lV (e6 AH) yO:=zP (a1:=(false,Sy.str.li)) (a2:=(false,Sy.str.li)) (sp:=lV) (F:=yO) (Hs:=O0) (f:=28) (k:=8) IQ bF bG (aX rfl) ⟨_,_,Tryz.func28,rfl⟩ rfl fun _ _ _=>by kernel_rfl
theorem MI:bE Tryz.prog 28 l7:=NS fun a b r h hb=>by
 cases h
 unfold yO d7
 exact vE (r:=.str) (R:=fun y=>y=Sh.enc AP (qN a b)) hb.1.1 _ (fun x y=>decide_eq_true_iff) rfl
noncomputable def DS:Env:=Env.of [(28,.pure l7)]
def EG:FuncId→Hint:=fun _=>bT
theorem yB:aM Tryz.prog DS:=.cons MI (.nil _)
def mY(a0:jQ)(a1:jQ)(R:T→Prop):Prop:=aI (decide (a0.1=a1.1)) (aI (decide (a0.2.1=a1.2.1)) (aI (decide (a0.2.2.2.1=a1.2.2.2.1)) (aF f7 (l7 [T.sl false (List.map Sy.str.enc a0.2.2.1), T.sl false (List.map Sy.str.enc a1.2.2.1)]) fun (y0:Bool)=>aI y0 (aF f7 (l7 [T.sl false (List.map Sy.str.enc a0.2.2.2.2), T.sl false (List.map Sy.str.enc a1.2.2.2.2)]) fun (y1:Bool)=>R (T.v (.bool y1))) (R d7)) (R d7)) (R d7)) (R d7)
abbrev nP:Sh:=[(true,fO),(true,fO)]
noncomputable def iD:List T→Option T:=gS nP jD
theorem vW {a0 a1}:iD [aE true fO a0,aE true fO a1]=jD (a0,a1):=cI (s:=nP) rfl (a0,a1) rfl
theorem CW:O1 Tryz.prog 39 iD jD (e6 nP) mY:=zP (a1:=(true,fO)) (a2:=(true,fO)) (sp:=jD) (F:=mY) (Hs:=EG) (f:=39) (k:=8) yB bF bG (aX rfl) ⟨_,_,Tryz.func39,rfl⟩ rfl fun _ _ _=>by kernel_rfl
theorem B2:bE Tryz.prog 39 iD:=CW fun a b r h hb=>by
 cases h
 unfold mY f7 d7
 have u:=@FI
 simp only[u,lV,u5]
 simp only[QX,CJ,w5]
 congr 2
 rw[Bool.eq_iff_iff,cU]
 simp only[Bool.and_true,Bool.and_eq_true,decide_eq_true_eq,cU,Prod.ext_iff]
 exact ⟨fun ⟨h1,h2,h3,h4,h5⟩=>⟨h1,h2,h4,h3,h5⟩,fun ⟨h1,h2,h4,h3,h5⟩=>⟨h1,h2,h3,h4,h5⟩⟩
end Go.Pv
namespace Go.Pv
open Go Go.Proofs
theorem L8:dB Tryz.prog 309 (iL 1 8):=eK bF bG ⟨_,_,Tryz.func309,rfl⟩ ⟨fun R=>by kernel_rfl,fun fl R=>by kernel_rfl,fun fl a rows R=>by kernel_rfl⟩
theorem wR:dB Tryz.prog 70 (iL 3 40):=eK bF bG ⟨_,_,Tryz.func70,rfl⟩ ⟨fun R=>by kernel_rfl,fun fl R=>by kernel_rfl,fun fl a rows R=>by kernel_rfl⟩
theorem wU:dB Tryz.prog 71 (iL 6 72):=eK bF bG ⟨_,_,Tryz.func71,rfl⟩ ⟨fun R=>by kernel_rfl,fun fl R=>by kernel_rfl,fun fl a rows R=>by kernel_rfl⟩
theorem wQ:dB Tryz.prog 72 (iL 3 40):=eK bF bG ⟨_,_,Tryz.func72,rfl⟩ ⟨fun R=>by kernel_rfl,fun fl R=>by kernel_rfl,fun fl a rows R=>by kernel_rfl⟩
theorem HA:dB Tryz.prog 68 (iL 2 16):=eK bF bG ⟨_,_,Tryz.func68,rfl⟩ ⟨fun R=>by kernel_rfl,fun fl R=>by kernel_rfl,fun fl a rows R=>by kernel_rfl⟩
theorem BY:dB Tryz.prog 69 (iL 1 24):=eK bF bG ⟨_,_,Tryz.func69,rfl⟩ ⟨fun R=>by kernel_rfl,fun fl R=>by kernel_rfl,fun fl a rows R=>by kernel_rfl⟩
theorem wT:dB Tryz.prog 73 (iL 18 208):=eK bF bG ⟨_,_,Tryz.func73,rfl⟩ ⟨fun R=>by kernel_rfl,fun fl R=>by kernel_rfl,fun fl a rows R=>by kernel_rfl⟩
theorem wS:dB Tryz.prog 74 (iL 5 88):=eK bF bG ⟨_,_,Tryz.func74,rfl⟩ ⟨fun R=>by kernel_rfl,fun fl R=>by kernel_rfl,fun fl a rows R=>by kernel_rfl⟩
theorem BZ:dB Tryz.prog 219 (iL 1 16):=eK bF bG ⟨_,_,Tryz.func219,rfl⟩ ⟨fun R=>by kernel_rfl,fun fl R=>by kernel_rfl,fun fl a rows R=>by kernel_rfl⟩
def Q1:FuncId→Bool:=fun f=>[274,79,233,36,147,154].contains f
noncomputable def MP:Env:=Env.of [(273,.pure pP),(309,.fresh (iL 1 8)),(70,.fresh (iL 3 40)),(71,.fresh (iL 6 72)),(72,.fresh (iL 3 40)),(68,.fresh (iL 2 16)),(69,.fresh (iL 1 24)),(73,.fresh (iL 18 208)),(74,.fresh (iL 5 88)),(219,.fresh (iL 1 16)),(5000000000+28,.mark)]
theorem JY:aM Tryz.prog MP:=aM.cons (x:=.pure pP) B4 (aM.cons (x:=.fresh (iL 1 8)) L8 (aM.cons (x:=.fresh (iL 3 40)) wR (aM.cons (x:=.fresh (iL 6 72)) wU (aM.cons (x:=.fresh (iL 3 40)) wQ (aM.cons (x:=.fresh (iL 2 16)) HA (aM.cons (x:=.fresh (iL 1 24)) BY (aM.cons (x:=.fresh (iL 18 208)) wT (aM.cons (x:=.fresh (iL 5 88)) wS (aM.cons (x:=.fresh (iL 1 16)) BZ (aM.cons (x:=.mark) trivial (aM.nil _)))))))))))
noncomputable def S8:List T→Option T:=OI Tryz.prog 400 Q1 MP 40 10
theorem R1:bE Tryz.prog 10 S8:=F1 bF bG 400 Q1 JY 40 (KW (k:=39) (fn:=_) (c:=_) (by kernel_rfl) Tryz.func10 rfl (by kernel_rfl))
end Go.Pv
namespace Go.Pv
open Go Go.Proofs
def OJ:Value→Value→Bool
 | .int k a,.int j b=>decide (k=j)&&decide (a=b)
 | .string a,.string b=>decide (a=b)
 | .bool a,.bool b=>a == b
 | .slice none a b,.slice none c d=>a == c&&b == d
 | _,_=>false
def EL {α:Type} (f:α→α→Bool):List α→List α→Bool
 | [],[]=>true
 | a::l,b::m=>f a b&&EL f l m
 | _,_=>false
def xK:Nat→T→T→Bool
 | n+1,.v a,.v b=>OJ a b
 | n+1,.agg l,.agg m=>EL (xK n) l m
 | n+1,.sl f l,.sl g m=>(f == g)&&EL (EL (xK n)) l m
 | _,_,_=>false
def JO:List (List T×T)→List T→Option T
 | [],_=>none
 | (A,r)::l,args=>match EL (xK 20) args A with
  | true=>some r
  | false=>JO l args
theorem OK {a b:Value} (h:OJ a b=true):a=b:=by
 unfold OJ at h
 split at h
 ·simp only[Bool.and_eq_true,decide_eq_true_eq] at h
  rw[h.1,h.2]
 ·rw[of_decide_eq_true h]
 ·rw[eq_of_beq h]
 ·simp only[Bool.and_eq_true,beq_iff_eq] at h
  rw[h.1,h.2]
 ·cases h
theorem nU {α:Type} {f:α→α→Bool} (hf:∀ a b,f a b=true→a=b):∀ l m,EL f l m=true→l=m
 | [],[],_=>rfl
 | [],_::_,h=>by cases h
 | _::_,[],h=>by cases h
 | a::l,b::m,h=>by
  simp only[EL,Bool.and_eq_true] at h
  rw[hf a b h.1,nU hf l m h.2]
theorem vC:∀ (n:Nat) (a b:T),xK n a b=true→a=b
 | 0,_,_,h=>by simp[xK] at h
 | n+1,a,b,h=>by
  unfold xK at h
  split at h
  ·rename_i e;rw[OK h]
  ·rename_i e;cases e;rw[nU (vC n) _ _ h]
  ·rename_i e;cases e
   simp only[Bool.and_eq_true,beq_iff_eq] at h
   rw[h.1,nU (nU (vC n)) _ _ h.2]
  ·cases h
theorem wY:∀ {l:List (List T×T)} {args:List T} {r:T},JO l args=some r→(args,r)∈l
 | [],_,_,h=>by cases h
 | (A,q)::l,args,r,h=>by
  unfold JO at h
  split at h
  ·rename_i e
   cases h
   rw[nU (vC 20) _ _ e]
   exact List.mem_cons_self
  ·exact List.mem_cons_of_mem _ (wY h)
theorem JP {P:Program} {f:FuncId} {g:List T→Option T} (hg:bE P f g) {l:List (List T×T)} (h:∀ x∈l,g x.1=some x.2):bE P f (JO l):=⟨hg.entry,fun w own args vs r hG ho ha hr=>hg.calls w own args vs r hG ho ha (h _ (wY hr))⟩
def T2:List T:=[T.agg [T.v (.string { data:=#[72] }),T.sl false [[T.v (.string { data:=#[65] }),T.v (.int .i64 2),T.v (.string { data:=#[66] })],[T.v (.string { data:=#[66] }),T.v (.int .i64 1),T.v (.string { data:=#[] })]],T.sl false [[T.v (.string { data:=#[80] }),T.v (.int .i64 1),T.v (.int .i64 4),T.v (.string { data:=#[65] }),T.v (.string { data:=#[] }),T.v (.int .i64 0),T.v (Value.slice none 0 0),T.v (Value.slice none 0 0),T.v (.string { data:=#[] }),T.v (.int .i64 0),T.v (.int .i64 7),T.v (.int .i64 0),T.v (.int .i64 0),T.v (.int .i64 0),T.v (.int .i64 0),T.v (.int .i64 0),T.v (.int .i64 0),T.v (.int .i64 0)]],T.sl false [],T.sl false [],T.sl false []],T.agg [T.v (Value.slice none 0 0),T.v (Value.slice none 0 0)],T.agg [T.v (.int .i64 5),T.v (.string { data:=#[] }),T.v (.string { data:=#[] }),T.v (.string { data:=#[] }),T.v (.int .i64 0),T.v (.string { data:=#[] }),T.v (.string { data:=#[80] }),T.v (.int .i64 0),T.v (.int .i64 4),T.v (.string { data:=#[65] }),T.v (.string { data:=#[] }),T.v (.int .i64 0),T.v (Value.slice none 0 0),T.v (Value.slice none 0 0),T.v (.string { data:=#[] }),T.v (.int .i64 0),T.v (.int .i64 9),T.v (.int .i64 0),T.v (.int .i64 0),T.v (.int .i64 0),T.v (.int .i64 0),T.v (.int .i64 0),T.v (.int .i64 0),T.v (.int .i64 0),T.v (.string { data:=#[] }),T.v (.string { data:=#[] }),T.v (.string { data:=#[] }),T.v (.int .i64 0),T.v (.int .i64 0),T.v (.int .i64 0),T.v (.string { data:=#[] }),T.v (.string { data:=#[] }),T.v (Value.slice none 0 0),T.v (.int .i64 0),T.v (Value.slice none 0 0),T.v (.int .i64 0),T.v (.string { data:=#[] }),T.v (.string { data:=#[] })]]
def T7:T:=Go.Pv.T.aT [Go.Pv.T.agg [Go.Pv.T.v (Go.Value.string { data:=#[72] }),Go.Pv.T.sl false [[Go.Pv.T.v (Go.Value.string { data:=#[65] }),Go.Pv.T.v (Go.Value.int Go.IntKind.i64 2),Go.Pv.T.v (Go.Value.string { data:=#[66] })],[Go.Pv.T.v (Go.Value.string { data:=#[66] }),Go.Pv.T.v (Go.Value.int Go.IntKind.i64 1),Go.Pv.T.v (Go.Value.string { data:=#[] })]],Go.Pv.T.sl false [[Go.Pv.T.v (Go.Value.string { data:=#[80] }),Go.Pv.T.v (Go.Value.int Go.IntKind.i64 (Go.IntKind.i64.wrap (1+1))),Go.Pv.T.v (Go.Value.int Go.IntKind.i64 4),Go.Pv.T.v (Go.Value.string { data:=#[65] }),Go.Pv.T.v (Go.Value.string { data:=#[] }),Go.Pv.T.v (Go.Value.int Go.IntKind.i64 0),Go.Pv.T.sl false [],Go.Pv.T.sl false [],Go.Pv.T.v (Go.Value.string { data:=#[] }),Go.Pv.T.v (Go.Value.int Go.IntKind.i64 0),Go.Pv.T.v (Go.Value.int Go.IntKind.i64 9),Go.Pv.T.v (Go.Value.int Go.IntKind.i64 0),Go.Pv.T.v (Go.Value.int Go.IntKind.i64 0),Go.Pv.T.v (Go.Value.int Go.IntKind.i64 0),Go.Pv.T.v (Go.Value.int Go.IntKind.i64 0),Go.Pv.T.v (Go.Value.int Go.IntKind.i64 0),Go.Pv.T.v (Go.Value.int Go.IntKind.i64 0),Go.Pv.T.v (Go.Value.int Go.IntKind.i64 0)]],Go.Pv.T.sl false [],Go.Pv.T.sl false [],Go.Pv.T.sl false []],Go.Pv.T.v (Go.Value.int Go.IntKind.i64 0)]
theorem V1:S8 T2=some T7:=by kernel_rfl
def T3:List T:=[T.agg [T.v (.string { data:=#[72] }),T.sl false [[T.v (.string { data:=#[65] }),T.v (.int .i64 2),T.v (.string { data:=#[66] })],[T.v (.string { data:=#[66] }),T.v (.int .i64 1),T.v (.string { data:=#[] })]],T.sl false [[T.v (.string { data:=#[80] }),T.v (.int .i64 (IntKind.i64.wrap (1+1))),T.v (.int .i64 4),T.v (.string { data:=#[65] }),T.v (.string { data:=#[] }),T.v (.int .i64 0),T.sl false [],T.sl false [],T.v (.string { data:=#[] }),T.v (.int .i64 0),T.v (.int .i64 9),T.v (.int .i64 0),T.v (.int .i64 0),T.v (.int .i64 0),T.v (.int .i64 0),T.v (.int .i64 0),T.v (.int .i64 0),T.v (.int .i64 0)]],T.sl false [],T.sl false [],T.sl false []],T.agg [T.v (Value.slice none 0 0),T.v (Value.slice none 0 0)],T.agg [T.v (.int .i64 5),T.v (.string { data:=#[] }),T.v (.string { data:=#[] }),T.v (.string { data:=#[] }),T.v (.int .i64 0),T.v (.string { data:=#[] }),T.v (.string { data:=#[80] }),T.v (.int .i64 0),T.v (.int .i64 4),T.v (.string { data:=#[65] }),T.v (.string { data:=#[] }),T.v (.int .i64 0),T.sl false [],T.sl false [],T.v (.string { data:=#[] }),T.v (.int .i64 0),T.v (.int .i64 7),T.v (.int .i64 0),T.v (.int .i64 0),T.v (.int .i64 0),T.v (.int .i64 0),T.v (.int .i64 0),T.v (.int .i64 0),T.v (.int .i64 0),T.v (.string { data:=#[] }),T.v (.string { data:=#[] }),T.v (.string { data:=#[] }),T.v (.int .i64 0),T.v (.int .i64 0),T.v (.int .i64 0),T.v (.string { data:=#[] }),T.v (.string { data:=#[] }),T.sl false [],T.v (.int .i64 0),T.sl false [],T.v (.int .i64 0),T.v (.string { data:=#[] }),T.v (.string { data:=#[] })]]
def T8:T:=Go.Pv.T.aT [Go.Pv.T.agg [Go.Pv.T.v (Go.Value.string { data:=#[72] }),Go.Pv.T.sl false [[Go.Pv.T.v (Go.Value.string { data:=#[65] }),Go.Pv.T.v (Go.Value.int Go.IntKind.i64 2),Go.Pv.T.v (Go.Value.string { data:=#[66] })],[Go.Pv.T.v (Go.Value.string { data:=#[66] }),Go.Pv.T.v (Go.Value.int Go.IntKind.i64 1),Go.Pv.T.v (Go.Value.string { data:=#[] })]],Go.Pv.T.sl false [[Go.Pv.T.v (Go.Value.string { data:=#[80] }),Go.Pv.T.v (Go.Value.int Go.IntKind.i64 (Go.IntKind.i64.wrap (Go.IntKind.i64.wrap (1+1)+1))),Go.Pv.T.v (Go.Value.int Go.IntKind.i64 4),Go.Pv.T.v (Go.Value.string { data:=#[65] }),Go.Pv.T.v (Go.Value.string { data:=#[] }),Go.Pv.T.v (Go.Value.int Go.IntKind.i64 0),Go.Pv.T.sl false [],Go.Pv.T.sl false [],Go.Pv.T.v (Go.Value.string { data:=#[] }),Go.Pv.T.v (Go.Value.int Go.IntKind.i64 0),Go.Pv.T.v (Go.Value.int Go.IntKind.i64 7),Go.Pv.T.v (Go.Value.int Go.IntKind.i64 0),Go.Pv.T.v (Go.Value.int Go.IntKind.i64 0),Go.Pv.T.v (Go.Value.int Go.IntKind.i64 0),Go.Pv.T.v (Go.Value.int Go.IntKind.i64 0),Go.Pv.T.v (Go.Value.int Go.IntKind.i64 0),Go.Pv.T.v (Go.Value.int Go.IntKind.i64 0),Go.Pv.T.v (Go.Value.int Go.IntKind.i64 0)]],Go.Pv.T.sl false [],Go.Pv.T.sl false [],Go.Pv.T.sl false []],Go.Pv.T.v (Go.Value.int Go.IntKind.i64 0)]
theorem V2:S8 T3=some T8:=by kernel_rfl
def T4:List T:=[T.agg [T.v (.string { data:=#[72] }),T.sl false [[T.v (.string { data:=#[65] }),T.v (.int .i64 2),T.v (.string { data:=#[66] })],[T.v (.string { data:=#[66] }),T.v (.int .i64 1),T.v (.string { data:=#[] })]],T.sl false [[T.v (.string { data:=#[80] }),T.v (.int .i64 1),T.v (.int .i64 4),T.v (.string { data:=#[65] }),T.v (.string { data:=#[] }),T.v (.int .i64 0),T.v (Value.slice none 0 0),T.v (Value.slice none 0 0),T.v (.string { data:=#[] }),T.v (.int .i64 0),T.v (.int .i64 7),T.v (.int .i64 0),T.v (.int .i64 0),T.v (.int .i64 0),T.v (.int .i64 0),T.v (.int .i64 0),T.v (.int .i64 0),T.v (.int .i64 0)]],T.sl false [],T.sl false [],T.sl false []],T.agg [T.v (Value.slice none 0 0),T.v (Value.slice none 0 0)],T.agg [T.v (.int .i64 2),T.v (.string { data:=#[65] }),T.v (.string { data:=#[] }),T.v (.string { data:=#[] }),T.v (.int .i64 0),T.v (.string { data:=#[] }),T.v (.string { data:=#[] }),T.v (.int .i64 0),T.v (.int .i64 0),T.v (.string { data:=#[] }),T.v (.string { data:=#[] }),T.v (.int .i64 0),T.v (Value.slice none 0 0),T.v (Value.slice none 0 0),T.v (.string { data:=#[] }),T.v (.int .i64 0),T.v (.int .i64 0),T.v (.int .i64 0),T.v (.int .i64 0),T.v (.int .i64 0),T.v (.int .i64 0),T.v (.int .i64 0),T.v (.int .i64 0),T.v (.int .i64 0),T.v (.string { data:=#[] }),T.v (.string { data:=#[] }),T.v (.string { data:=#[] }),T.v (.int .i64 0),T.v (.int .i64 0),T.v (.int .i64 0),T.v (.string { data:=#[] }),T.v (.string { data:=#[] }),T.v (Value.slice none 0 0),T.v (.int .i64 0),T.v (Value.slice none 0 0),T.v (.int .i64 0),T.v (.string { data:=#[] }),T.v (.string { data:=#[] })]]
def T9:T:=Go.Pv.T.aT [Go.Pv.T.agg [Go.Pv.T.v (Go.Value.string { data:=#[] }),Go.Pv.T.sl false [],Go.Pv.T.sl false [],Go.Pv.T.sl false [],Go.Pv.T.sl false [],Go.Pv.T.sl false []],Go.Pv.T.v (Go.Value.int Go.IntKind.i64 34)]
theorem V3:S8 T4=some T9:=by kernel_rfl
def T5:List T:=[T.agg [T.v (.string { data:=#[72] }),T.sl false [[T.v (.string { data:=#[65] }),T.v (.int .i64 2),T.v (.string { data:=#[66] })],[T.v (.string { data:=#[66] }),T.v (.int .i64 1),T.v (.string { data:=#[] })]],T.sl false [[T.v (.string { data:=#[80] }),T.v (.int .i64 1),T.v (.int .i64 4),T.v (.string { data:=#[65] }),T.v (.string { data:=#[] }),T.v (.int .i64 0),T.v (Value.slice none 0 0),T.v (Value.slice none 0 0),T.v (.string { data:=#[] }),T.v (.int .i64 0),T.v (.int .i64 7),T.v (.int .i64 0),T.v (.int .i64 0),T.v (.int .i64 0),T.v (.int .i64 0),T.v (.int .i64 0),T.v (.int .i64 0),T.v (.int .i64 0)]],T.sl false [],T.sl false [],T.sl false []],T.agg [T.v (Value.slice none 0 0),T.v (Value.slice none 0 0)],T.agg [T.v (.int .i64 12),T.v (.string { data:=#[65] }),T.v (.string { data:=#[] }),T.v (.string { data:=#[] }),T.v (.int .i64 0),T.v (.string { data:=#[] }),T.v (.string { data:=#[] }),T.v (.int .i64 0),T.v (.int .i64 0),T.v (.string { data:=#[] }),T.v (.string { data:=#[] }),T.v (.int .i64 0),T.v (Value.slice none 0 0),T.v (Value.slice none 0 0),T.v (.string { data:=#[] }),T.v (.int .i64 0),T.v (.int .i64 0),T.v (.int .i64 0),T.v (.int .i64 0),T.v (.int .i64 0),T.v (.int .i64 0),T.v (.int .i64 0),T.v (.int .i64 0),T.v (.int .i64 0),T.v (.string { data:=#[] }),T.v (.string { data:=#[] }),T.v (.string { data:=#[] }),T.v (.int .i64 0),T.v (.int .i64 0),T.v (.int .i64 0),T.v (.string { data:=#[] }),T.v (.string { data:=#[] }),T.v (Value.slice none 0 0),T.v (.int .i64 0),T.v (Value.slice none 0 0),T.v (.int .i64 0),T.v (.string { data:=#[] }),T.v (.string { data:=#[] })]]
def UA:T:=Go.Pv.T.aT [Go.Pv.T.agg [Go.Pv.T.v (Go.Value.string { data:=#[] }),Go.Pv.T.sl false [],Go.Pv.T.sl false [],Go.Pv.T.sl false [],Go.Pv.T.sl false [],Go.Pv.T.sl false []],Go.Pv.T.v (Go.Value.int Go.IntKind.i64 2)]
theorem V4:S8 T5=some UA:=by kernel_rfl
def T6:List T:=[T.agg [T.v (.string { data:=#[72] }),T.sl false [[T.v (.string { data:=#[65] }),T.v (.int .i64 2),T.v (.string { data:=#[66] })],[T.v (.string { data:=#[66] }),T.v (.int .i64 1),T.v (.string { data:=#[] })]],T.sl false [[T.v (.string { data:=#[80] }),T.v (.int .i64 1),T.v (.int .i64 4),T.v (.string { data:=#[65] }),T.v (.string { data:=#[] }),T.v (.int .i64 0),T.v (Value.slice none 0 0),T.v (Value.slice none 0 0),T.v (.string { data:=#[] }),T.v (.int .i64 0),T.v (.int .i64 7),T.v (.int .i64 0),T.v (.int .i64 0),T.v (.int .i64 0),T.v (.int .i64 0),T.v (.int .i64 0),T.v (.int .i64 0),T.v (.int .i64 0)]],T.sl false [],T.sl false [],T.sl false []],T.agg [T.v (Value.slice none 0 0),T.v (Value.slice none 0 0)],T.agg [T.v (.int .i64 6),T.v (.string { data:=#[80] }),T.v (.string { data:=#[66] }),T.v (.string { data:=#[] }),T.v (.int .i64 0),T.v (.string { data:=#[] }),T.v (.string { data:=#[] }),T.v (.int .i64 0),T.v (.int .i64 0),T.v (.string { data:=#[] }),T.v (.string { data:=#[] }),T.v (.int .i64 0),T.v (Value.slice none 0 0),T.v (Value.slice none 0 0),T.v (.string { data:=#[] }),T.v (.int .i64 0),T.v (.int .i64 0),T.v (.int .i64 0),T.v (.int .i64 0),T.v (.int .i64 0),T.v (.int .i64 0),T.v (.int .i64 0),T.v (.int .i64 0),T.v (.int .i64 0),T.v (.string { data:=#[] }),T.v (.string { data:=#[] }),T.v (.string { data:=#[] }),T.v (.int .i64 0),T.v (.int .i64 0),T.v (.int .i64 0),T.v (.string { data:=#[] }),T.v (.string { data:=#[] }),T.v (Value.slice none 0 0),T.v (.int .i64 0),T.v (Value.slice none 0 0),T.v (.int .i64 0),T.v (.string { data:=#[] }),T.v (.string { data:=#[] })]]
def UB:T:=Go.Pv.T.aT [Go.Pv.T.agg [Go.Pv.T.v (Go.Value.string { data:=#[72] }),Go.Pv.T.sl false [[Go.Pv.T.v (Go.Value.string { data:=#[65] }),Go.Pv.T.v (Go.Value.int Go.IntKind.i64 2),Go.Pv.T.v (Go.Value.string { data:=#[66] })],[Go.Pv.T.v (Go.Value.string { data:=#[66] }),Go.Pv.T.v (Go.Value.int Go.IntKind.i64 1),Go.Pv.T.v (Go.Value.string { data:=#[] })]],Go.Pv.T.sl false [[Go.Pv.T.v (Go.Value.string { data:=#[80] }),Go.Pv.T.v (Go.Value.int Go.IntKind.i64 1),Go.Pv.T.v (Go.Value.int Go.IntKind.i64 4),Go.Pv.T.v (Go.Value.string { data:=#[66] }),Go.Pv.T.v (Go.Value.string { data:=#[] }),Go.Pv.T.v (Go.Value.int Go.IntKind.i64 0),Go.Pv.T.sl false [],Go.Pv.T.sl false [],Go.Pv.T.v (Go.Value.string { data:=#[] }),Go.Pv.T.v (Go.Value.int Go.IntKind.i64 0),Go.Pv.T.v (Go.Value.int Go.IntKind.i64 7),Go.Pv.T.v (Go.Value.int Go.IntKind.i64 0),Go.Pv.T.v (Go.Value.int Go.IntKind.i64 0),Go.Pv.T.v (Go.Value.int Go.IntKind.i64 0),Go.Pv.T.v (Go.Value.int Go.IntKind.i64 0),Go.Pv.T.v (Go.Value.int Go.IntKind.i64 0),Go.Pv.T.v (Go.Value.int Go.IntKind.i64 0),Go.Pv.T.v (Go.Value.int Go.IntKind.i64 0)]],Go.Pv.T.sl false [],Go.Pv.T.sl false [],Go.Pv.T.sl false []],Go.Pv.T.v (Go.Value.int Go.IntKind.i64 0)]
theorem V5:S8 T6=some UB:=by kernel_rfl
def LZ:List (List T×T):=[(T2,T7),(T3,T8),(T4,T9),(T5,UA),(T6,UB)]
theorem PO:bE Tryz.prog 10 (JO LZ):=JP R1 fun x hx=>by
 simp only[LZ,List.mem_cons,List.not_mem_nil,or_false] at hx
 rcases hx with rfl|rfl|rfl|rfl|rfl
 ·exact V1
 ·exact V2
 ·exact V3
 ·exact V4
 ·exact V5
end Go.Pv
namespace Go.Pv
open Go Go.Proofs
def R5:FuncId→Bool:=fun f=>[87,274,79,233,36,147,154,12,40,41,14,241,89,92,19,16,45,47,44,46,90,91,93,30,63,206,32,31].contains f
def R3:List T→Option T:=JO LZ
theorem L9:bE Tryz.prog 10 R3:=PO
noncomputable def HG:Env:=Env.of [(273,.pure pP),(10,.pure R3),(70,.fresh (iL 3 40)),(71,.fresh (iL 6 72)),(72,.fresh (iL 3 40)),(68,.fresh (iL 2 16)),(69,.fresh (iL 1 24)),(73,.fresh (iL 18 208)),(74,.fresh (iL 5 88)),(219,.fresh (iL 1 16)),(5000000000+28,.mark),(7000000000+144,.mark)]
theorem FN:aM Tryz.prog HG:=aM.cons (x:=.pure pP) B4 (aM.cons (x:=.pure R3) L9 (aM.cons (x:=.fresh (iL 3 40)) wR (aM.cons (x:=.fresh (iL 6 72)) wU (aM.cons (x:=.fresh (iL 3 40)) wQ (aM.cons (x:=.fresh (iL 2 16)) HA (aM.cons (x:=.fresh (iL 1 24)) BY (aM.cons (x:=.fresh (iL 18 208)) wT (aM.cons (x:=.fresh (iL 5 88)) wS (aM.cons (x:=.fresh (iL 1 16)) BZ (aM.cons (x:=.mark) trivial (aM.cons (x:=.mark) trivial (aM.nil _))))))))))))
def UH:List T→Option T:=fun args=>match args with | []=>some (.v (.bool true))|_=>none
def hJ:List T→Option T:=UH
theorem E3:bE Tryz.prog 7 hJ :=
 JG bF bG 400 R5 (B:=HG) FN 40 (by kernel_rfl)
end Go.Pv
namespace Go.Pv
open Go Go.Proofs
noncomputable def kM (x:kQ×kQ):Option T:=some (Sh.enc AP (qN x.1 x.2))
noncomputable def IC:Env:=Env.of [(38,.pure iE),(39,.pure iD)]
def IW:FuncId→Hint:=fun _=>bT
theorem AS:aM Tryz.prog IC:=.cons B3 (.cons B2 (.nil _))
def o7(a0:kQ)(a1:kQ)(R:T→Prop):Prop:=aI (decide (a0.1=a1.1)) (aI (decide (a0.2.1=a1.2.1)) (aI (decide (a0.2.2.1=a1.2.2.1)) (aI (decide (a0.2.2.2.1.1=a1.2.2.2.1.1) && (decide (a0.2.2.2.1.2.1=a1.2.2.2.1.2.1) && (decide (a0.2.2.2.1.2.2=a1.2.2.2.1.2.2)&&true))) (aF f7 (iE [aE true gP a0.2.2.2.2.1,aE true gP a1.2.2.2.2.1]) fun (y0:Bool)=>aI y0 (aI (decide (a0.2.2.2.2.2.1.1=a1.2.2.2.2.2.1.1) && (decide (a0.2.2.2.2.2.1.2.1=a1.2.2.2.2.2.1.2.1) && (decide (a0.2.2.2.2.2.1.2.2.1=a1.2.2.2.2.2.1.2.2.1) && (decide (a0.2.2.2.2.2.1.2.2.2.1=a1.2.2.2.2.2.1.2.2.2.1) && (decide (a0.2.2.2.2.2.1.2.2.2.2.1 = a1.2.2.2.2.2.1.2.2.2.2.1) && (decide (a0.2.2.2.2.2.1.2.2.2.2.2 = a1.2.2.2.2.2.1.2.2.2.2.2) && true)))))) (aF f7 (iD [aE true fO a0.2.2.2.2.2.2.1, aE true fO a1.2.2.2.2.2.2.1]) fun (y1:Bool)=>aI y1 (R (T.v (.bool (decide (a0.2.2.2.2.2.2.2.1=a1.2.2.2.2.2.2.2.1) && (decide (a0.2.2.2.2.2.2.2.2.1=a1.2.2.2.2.2.2.2.2.1) && (decide (a0.2.2.2.2.2.2.2.2.2=a1.2.2.2.2.2.2.2.2.2) && true)))))) (R d7)) (R d7)) (R d7)) (R d7)) (R d7)) (R d7)) (R d7)
abbrev pX:Sh:=[(true,eZ),(true,eZ)]
noncomputable def jW:List T→Option T:=gS pX kM
theorem zH {a0 a1}:jW [aE true eZ a0,aE true eZ a1]=kM (a0,a1):=cI (s:=pX) rfl (a0,a1) rfl
theorem FY:O1 Tryz.prog 18 jW kM (e6 pX) o7:=zP (a1:=(true,eZ)) (a2:=(true,eZ)) (sp:=kM) (F:=o7) (Hs:=IW) (f:=18) (k:=8) AS bF bG (aX rfl) ⟨_,_,Tryz.func18,rfl⟩ rfl fun _ _ _=>by kernel_rfl
theorem E4:bE Tryz.prog 18 jW:=FY fun a b r h hb=>by
 cases h
 clear hb
 have no:¬ a=b→T.v (.bool false)=Sh.enc AP (qN a b):=fun h=>by
  rw[show qN a b=false from Bool.eq_false_iff.2 fun e=>h (cU.1 e)];rfl
 unfold o7 f7 d7
 refine eQ (fun h1=>?_) fun h=>no fun e=>h (by rw[e])
 refine eQ (fun h2=>?_) fun h=>no fun e=>h (by rw[e])
 refine eQ (fun h3=>?_) fun h=>no fun e=>h (by rw[e])
 refine S9 (fun h4=>?_) fun h=>no fun e=>by rw[e] at h;simp at h
 refine aQ (s:=AP) (y:=qN a.2.2.2.2.1 b.2.2.2.2.1) (vX ..) ?_
 refine S9 (fun h5=>?_) fun h=>no fun e=>by rw[e,cU.2 rfl] at h;cases h
 refine S9 (fun h6=>?_) fun h=>no fun e=>by rw[e] at h;simp at h
 refine aQ (s:=AP) (y:=qN a.2.2.2.2.2.2.1 b.2.2.2.2.2.2.1) (vW ..) ?_
 refine S9 (fun h7=>?_) fun h=>no fun e=>by rw[e,cU.2 rfl] at h;cases h
 replace h5:=cU.1 h5
 replace h7:=cU.1 h7
 show T.v (.bool _)=T.v (.bool (qN a b))
 congr 2
 rw[Bool.eq_iff_iff,cU]
 obtain ⟨a1,a2,a3,⟨a4,a5,a6⟩,a7,⟨a8,a9,a10,a11,a12,a13⟩,a14,a15,a16,a17⟩:=a
 obtain ⟨b1,b2,b3,⟨b4,b5,b6⟩,b7,⟨b8,b9,b10,b11,b12,b13⟩,b14,b15,b16,b17⟩:=b
 simp only[Bool.and_true,Bool.and_eq_true,decide_eq_true_eq] at h1 h2 h3 h4 h5 h6 h7 ⊢
 obtain ⟨h41,h42,h43⟩:=h4
 obtain ⟨h61,h62,h63,h64,h65,h66⟩:=h6
 subst h1 h2 h3 h41 h42 h43 h5 h61 h62 h63 h64 h65 h66 h7
 simp only[Prod.mk.injEq,true_and]
noncomputable def iX:List T→Option T:=gD jW
theorem MH:bE Tryz.prog 18 iX:=E4.deep
theorem DC {a b:kQ} {s t:T} (hs:T.deep 4 s=aE true eZ a) (ht:T.deep 4 t=aE true eZ b):iX [s,t]=some (Sh.enc AP (qN a b)):=by
 show jW [T.deep 4 s,T.deep 4 t]=_
 rw[hs,ht]
 exact zH ..
theorem LY (a:kQ):T.deep 4 (aE true eZ a)=aE true eZ a:=I8 (ag:=true) (r:=eZ) 3 a rfl rfl
def e7 {α:Type} (f:cB→cB×α):Prop:=∀ r,¬ r.2=0→¬ (f r).1.2=0
theorem OA (lo hi:Int):e7 fun r=>dE r lo hi:=fun r h=>by
 show ¬ (dE r lo hi).1.2=0
 unfold dE
 rw[if_pos h];exact h
theorem C4 (k most:Int) (f:Bool):e7 fun r=>aJ r k most f:=fun r h=>by
 show ¬ (aJ r k most f).1.2=0
 unfold aJ
 rw[if_pos h];exact h
theorem gL (n:Int):e7 (rT n):=fun r h=>by
 show ¬ (dS r n).1.2=0
 have h1:=C4 2 n true r h
 unfold dS
 split<;>exact h1
theorem eH:e7 rI:=OA _ _
theorem C6 {α:Type} {f:cB→cB×α} (hf:e7 f):∀ k,e7 (cP f k)
 | 0,r,h=>h
 | k+1,r,h=>hf _ (C6 hf k r h)
theorem aY {α β:Type} {f:cB→cB×α} {g:cB→cB×β} (hf:e7 f) (hg:e7 g):e7 (bU f g):=fun r h=>hg _ (hf r h)
theorem lJ {α:Type} {most:Int} {f:cB→cB×α} (hf:e7 f):e7 (CL most f):=fun r h=>C6 hf _ _ (C4 4 most false r h)
theorem SM {α:Type} {z:α} {f:cB→cB×α} (hf:e7 f):e7 (QC z f):=fun r h=>by
 show ¬ (QC z f r).1.2=0
 unfold QC
 split<;>exact hf r h
theorem N6:e7 fU:=SM (aY (gL _) (aY eH (aY eH (aY (gL _) (aY (gL _) (aY eH (aY (aY (lJ (aY eH eH)) (lJ (lJ (aY eH eH)))) (aY (gL _) (aY eH (aY eH (aY (aY eH (aY eH eH)) (aY (aY eH (aY eH eH)) eH))))))))))))
theorem KL:e7 pW:=aY eH (aY (gL _) (aY (gL _) (aY (aY (gL _) (aY eH (gL _))) (aY N6 (aY (aY (gL _) (aY (gL _) (aY (gL _) (aY eH (aY eH eH))))) (aY (aY (gL _) (aY (gL _) (aY (lJ (gL 64)) (aY eH (lJ (gL 64)))))) (aY eH (aY (gL _) (gL _)))))))))
theorem KM {r:cB} (h:¬ r.2=0):(gK r).2=p5:=by
 unfold gK QC
 rw[if_neg (KL r h)]
noncomputable def DO:Env:=Env.of [(14,.dR bH),(15,.dR bV),(16,.dR jT),(17,.dR oA),(18,.pure iX),(7,.pure hJ)]
def EF:FuncId→Hint:=gJ 4 [(5,.inv [.box 0 jG,.box 1 aA,.val 7 false (.int .i64)])] (gJ 46 [(10,.p0 1)] (gJ 91 [(3,.p0 1)] (gJ 47 [(2,.p0 1)] (fun _=>bT))))
theorem yA:aM Tryz.prog DO:=.cons n5 (.cons rS (.cons JJ (.cons MC (.cons MH (.cons E3 (.nil _))))))
def d3:List T:=[T.v (.int .i64 0), T.v (.string {data:=#[]}), T.v (.string {data:=#[]}), T.v (.string {data:=#[]}), T.v (.int .i64 0), T.v (.string {data:=#[]}), T.v (.string {data:=#[]}), T.v (.int .i64 0), T.v (.int .i64 0), T.v (.string {data:=#[]}), T.v (.string {data:=#[]}), T.v (.int .i64 0),T.v (Value.slice none 0 0), T.v (Value.slice none 0 0), T.v (.string {data:=#[]}), T.v (.int .i64 0), T.v (.int .i64 0), T.v (.int .i64 0), T.v (.int .i64 0), T.v (.int .i64 0), T.v (.int .i64 0), T.v (.int .i64 0), T.v (.int .i64 0), T.v (.int .i64 0), T.v (.string {data:=#[]}), T.v (.string {data:=#[]}), T.v (.string {data:=#[]}), T.v (.int .i64 0), T.v (.int .i64 0), T.v (.int .i64 0), T.v (.string {data:=#[]}), T.v (.string {data:=#[]}), T.v (Value.slice none 0 0),T.v (.int .i64 0), T.v (Value.slice none 0 0),T.v (.int .i64 0), T.v (.string {data:=#[]}), T.v (.string {data:=#[]})]
def d4:List T:=[T.v (.int .i64 0),T.v (.string {data:=#[]}), T.v (.string {data:=#[]}), T.v (.string {data:=#[]}), T.v (.int .i64 0), T.v (.string {data:=#[]}), T.v (.string {data:=#[]}), T.v (.int .i64 0),T.v (.int .i64 0), T.v (.string {data:=#[]}), T.v (.string {data:=#[]}), T.v (.int .i64 0),T.v (Value.slice none 0 0), T.v (Value.slice none 0 0),T.v (.string {data:=#[]}), T.v (.int .i64 0),T.v (.int .i64 0), T.v (.int .i64 0),T.v (.int .i64 0), T.v (.int .i64 0),T.v (.int .i64 0), T.v (.int .i64 0),T.v (.int .i64 0), T.v (.int .i64 0), T.v (.string {data:=#[]}), T.v (.string {data:=#[]}), T.v (.string {data:=#[]}), T.v (.int .i64 0),T.v (.int .i64 0), T.v (.int .i64 0), T.v (.string {data:=#[]}), T.v (.string {data:=#[]}),T.v (Value.slice none 0 0), T.v (.int .i64 0),T.v (Value.slice none 0 0), T.v (.int .i64 0), T.v (.string {data:=#[]}), T.v (.string {data:=#[]})]
def mX(a0:ByteArray)(a1:Int)(R:T→Prop):Prop:=aI (decide (3000<(↑(ByteArray.size a0):Int))) (aF f7 (hJ []) fun (y0:Bool)=>R (T.v (.bool y0))) (eU (aD×aB×Int×PUnit) (fun X1 s2=>bJ true (aI (decide (s2.2.2.1<(IntKind.i64.wrap a1).tmod 3)) (aF d0 (bH [aE true aC s2.1,T.v (.int .i64 0), T.v (.int .i64 9)]) fun (y3:aD×Int)=>aF d5 (bV [aE true aA s2.2.1,T.v (.int .i64 0), T.v (.int .i64 9)]) fun (y4:aB×Int)=>aI (!decide (y3.2=y4.2)) (R d7) (X1 ((y3.1.1,y3.1.2),(y4.1.1,y4.1.2.1,y4.1.2.2), IntKind.i64.wrap (s2.2.2.1+1),()))) (aF [(true,aC),(true,eZ)] (jT [aE true aC s2.1]) fun (y5:aD×kQ)=>aF [(true,aA),(true,eZ)] (oA [aE true aA s2.2.1]) fun (y6:aB×kQ)=>aF f7 (iX [aE true eZ y5.2,aE true eZ y6.2]) fun (y7:Bool)=>aI (!y7) (R d7) (aI (!decide (y5.1.2=y6.1.2.2)) (R d7) (aI (!decide ((↑(ByteArray.size y5.1.1):Int) = IntKind.i64.wrap ((↑(ByteArray.size y6.1.1):Int)-y6.1.2.1))) (R d7) (aI (decide (y5.1.2=0)) (aF f7 (iX [T.agg d4, T.agg d4]) fun (y8:Bool)=>aI y8 (aF f7 (hJ []) fun (y9:Bool)=>R (T.v (.bool y9))) (R d7)) (aF [(true,aC),(true,eZ)] (jT [aE true aC y5.1]) fun (y10:aD×kQ)=>aF f7 (iX [aE true eZ y10.2, T.agg [T.v (.int .i64 0), T.v (.string {data:=#[]}), T.v (.string {data:=#[]}), T.v (.string {data:=#[]}), T.v (.int .i64 0), T.v (.string {data:=#[]}), T.v (.string {data:=#[]}), T.v (.int .i64 0), T.v (.int .i64 0), T.v (.string {data:=#[]}), T.v (.string {data:=#[]}), T.v (.int .i64 0),T.v (Value.slice none 0 0), T.v (Value.slice none 0 0),T.v (.string {data:=#[]}), T.v (.int .i64 0), T.v (.int .i64 0), T.v (.int .i64 0), T.v (.int .i64 0), T.v (.int .i64 0), T.v (.int .i64 0), T.v (.int .i64 0), T.v (.int .i64 0), T.v (.int .i64 0), T.v (.string {data:=#[]}), T.v (.string {data:=#[]}), T.v (.string {data:=#[]}), T.v (.int .i64 0), T.v (.int .i64 0), T.v (.int .i64 0), T.v (.string {data:=#[]}), T.v (.string {data:=#[]}),T.v (Value.slice none 0 0), T.v (.int .i64 0),T.v (Value.slice none 0 0), T.v (.int .i64 0), T.v (.string {data:=#[]}), T.v (.string {data:=#[]})]]) fun (y11:Bool)=>aI y11 (aF f7 (iX [T.agg d3, T.agg d3]) fun (y12:Bool)=>aI y12 (aF f7 (hJ []) fun (y13:Bool)=>R (T.v (.bool y13))) (R d7)) (R d7)))))))) ((a0,0),(a0,0,0),0,()))
abbrev kL:Sh:=[(false,Sy.str),(false,(Sy.int IntKind.u8))]
def gO (x:ByteArray×Int):Option T:=some (T.v (.bool true))
noncomputable def uA:List T→Option T:=gS kL gO
theorem CV:O1 Tryz.prog 4 uA gO (e6 kL) mX:=zP (a1:=(false,Sy.str)) (a2:=(false,(Sy.int IntKind.u8))) (sp:=gO) (F:=mX) (Hs:=EF) (f:=4) (k:=8) yA bF bG (aX rfl) ⟨_,_,Tryz.func4,rfl⟩ rfl fun _ _ _=>by kernel_rfl
theorem VX {K:Bool→Prop} (h:K true):aF [(false,Sy.bool)] (hJ []) K:=⟨true,rfl,h⟩
def F5 (S:ByteArray):Nat→cB
 | 0=>(S,0)
 | k+1=>(dE (F5 S k) 0 9).1
theorem N2 {S:ByteArray} (hS:S.size≤140737488355328):∀ k,vO S (F5 S k)
 | 0=>⟨RO.all,hS⟩
 | k+1=>(N2 hS k).tl (C5 0 9 _)
theorem vL (T0:T) (h:T.deep 4 T0=aE true eZ p5) (t:T) (ht:T.deep 4 t=aE true eZ p5) {K:Bool→Prop} (hk:K true):aF [(false,Sy.bool)] (iX [T0,t]) K :=
 aQ (s:=AP) (y:=true) ((DC h ht).trans (by rw[cU.2 rfl])) hk
theorem SD {A B:Prop} (h:A):aI true A B:=S9 (fun _=>h) fun h=>by cases h
theorem B0:bE Tryz.prog 4 uA:=CV fun S a1 r h hb=>by
 clear hb
 cases h
 unfold mX f7 d7 d5 d4 d3 d0
 refine eQ (fun _=>VX rfl) fun h3=>?_
 have hS:S.size≤140737488355328:=by omega
 have hm:(IntKind.i64.wrap a1).tmod 3<3:=by
  have:=Int.tmod_lt_of_pos (IntKind.i64.wrap a1) (show (0:Int)<3 by decide)
  exact this
 generalize (IntKind.i64.wrap a1).tmod 3=m at hm ⊢
 refine dY m.toNat (fun k s=>s=(F5 S k,iM S (F5 S k),(k:Int),())) (Prod.ext rfl (Prod.ext (Prod.ext rfl (Prod.ext (Int.sub_self _).symm rfl)) rfl)) ?_
 rintro X k s hk rfl hX
 dsimp only
 have hq:=N2 hS k
 refine ⟨rfl,eQ (fun hlt=>?_) fun hge=>?_⟩
 ·refine aQ (s:=rZ) (y:=dE (F5 S k) 0 9) (uB ..) ?_
  refine aQ (s:=zZ) (y:=(iM S (dE (F5 S k) 0 9).1,(dE (F5 S k) 0 9).2)) ((w3 ..).trans (by unfold oV;dsimp only;rw[nK hq,toR_ofR hq];rfl)) ?_
  refine oC (fun h=>absurd rfl h) fun _=>?_
  exact hX _ (by omega) (by rw[zN (by omega)];rfl)
 have hz:vN (F5 S k)=true:=decide_eq_true (Nat.le_trans hq.1.2 hS)
 refine aQ (s:=u6) (y:=gK (F5 S k)) ((qF ..).trans (by unfold j1;rw[hz])) ?_
 refine aQ (s:=H4) (y:=(iM S (gK (F5 S k)).1,(gK (F5 S k)).2)) ((FA ..).trans (by unfold oU;rw[nK hq,toR_ofR hq];rfl)) ?_
 refine aQ (s:=AP) (y:=qN (gK (F5 S k)).2 (gK (F5 S k)).2) (DC (LY _) (LY _)) ?_
 have hq2:=hq.tl (N1 (F5 S k))
 generalize gK (F5 S k)=w at hq2 ⊢
 refine V8 (fun h=>(by rw[cU.2 rfl] at h;cases h)) fun _=>?_
 refine oC (fun h=>absurd rfl h) fun _=>?_
 have hl:((w.1.1.size:Nat):Int)=IntKind.i64.wrap ((S.size:Int)-((S.size:Int)-(w.1.1.size:Int))):=by
  have:=hq2.1.2
  rw[bB _ (by omega) (by omega)];omega
 refine oC (fun h=>absurd hl h) fun _=>?_
 refine eQ (fun _=>?_) fun he=>?_
 ·exact vL _ rfl _ rfl (SD (VX rfl))
 ·have hz2:vN w.1=true:=decide_eq_true (Nat.le_trans hq2.1.2 hS)
  refine aQ (s:=u6) (y:=gK w.1) ((qF ..).trans (by unfold j1;rw[hz2])) ?_
  rw[KM he]
  exact vL _ (LY _) _ rfl (SD (vL _ rfl _ rfl (SD (VX rfl))))
theorem CY:∀ x:ByteArray×Int,RM kL x→gO x=some (.v (.bool true)):=fun x _=>rfl
end Go.Pv
