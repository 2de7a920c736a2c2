/-
  How one reasons about maps with keys that are integers.
-/
import Derived.Test.YtpkaicahnkpkhaaGreatDoorPzkh
set_option linter.unusedSimpArgs false
set_option linter.unusedVariables false
namespace Go.Pv
open Go Go.RowKit
theorem MD (a b:Int):Instr.sameNow (.int .i64) (.int .i64 a) (.int .i64 b)=some (decide (a=b)):=by
 simp[Instr.sameNow];rfl
abbrev eI (r:Sy):=dV (.int .i64) false r
theorem K6 {r:Sy} {k:Int}:∀ {es:List (Int×r.den)} {i:Nat},(∀ e∈es,e.1≠k)→findD (.int .i64) (.int .i64 k) (List.map (eI r) es) i=some none
 | [],_,_=>rfl
 | e::es,i,h=>by
  show (match Instr.sameNow (.int .i64) (.int .i64 k) (.int .i64 e.1) with|some true=>_|some false=>_|none=>_)=_
  rw[MD,decide_eq_false (fun h'=>h e (by simp) h'.symm)]
  exact K6 fun e' he'=>h e' (by simp[he'])
theorem YT {r:Sy}:∀ {es:List (Int×r.den)} {i j:Nat} (hj:j<es.length),es.Pairwise (fun a b=>a.1<b.1)→findD (.int .i64) (.int .i64 es[j].1) (List.map (eI r) es) i=some (some (i+j,.p (aB false r es[j].2)))
 | e::es,i,0,_,_=>by
  show (match Instr.sameNow (.int .i64) (.int .i64 e.1) (.int .i64 e.1) with|some true=>_|some false=>_|none=>_)=_
  rw[MD,decide_eq_true rfl];rfl
 | e::es,i,j+1,hj,hp=>by
  have hj':j<es.length:=by simpa using hj
  have hlt:e.1<es[j].1:=(List.pairwise_cons.1 hp).1 _ (List.getElem_mem hj')
  show (match Instr.sameNow (.int .i64) (.int .i64 es[j].1) (.int .i64 e.1) with|some true=>_|some false=>_|none=>_)=_
  rw[MD,decide_eq_false (by omega)]
  have:=YT (i:=i+1) hj' (List.pairwise_cons.1 hp).2
  rw[show i+1+j=i+(j+1) by omega] at this
  exact this
theorem PZ {α:Type} (y:α) (K:α→Prop):TY α (some y) K=K y:=by
 apply propext
 constructor
 ·rintro ⟨z,h1,h2⟩;cases h1;exact h2
 ·exact fun h=>⟨y,rfl,h⟩
def Sy.atom:Sy→Bool
 | .int _=>true
 | .bool=>true
 | .str=>true
 | _=>false
theorem AS2 {r:Sy} (h:r.atom=true) (e:Int×r.den):NJ (eI r e)=eI r e:=by
 cases r<;>first|rfl|cases h
theorem YN {r:Sy} (h:r.atom=true) (es:List (Int×r.den)) (K:List (Int×r.den)→Prop) (hk:K es):lZ (.int .i64) false r (List.map (eI r) es) K :=
 ⟨es,by rw[List.map_map];exact List.map_congr_left fun e _=>AS2 h e,hk⟩
theorem ABJ {r:Sy} (es:List (Int×r.den)) (k:Int) (y:r.den):iK (List.map (eI r) es) none (.int .i64 k) (.p (aB false r y))=List.map (eI r) (es++[(k,y)]):=by
 simp only[iK,List.map_append,List.map_cons,List.map_nil];rfl
theorem APM {r:Sy} {es:List (Int×r.den)} {j:Nat} (hj:j<es.length) (hp:es.Pairwise (fun a b=>a.1<b.1)) {A:Prop} {B:Nat→r.den→Prop} (hB:B j es[j].2):O0 (.int .i64) (.int .i64 es[j].1) (List.map (eI r) es) false r A B :=
 .inr ⟨j,es[j].2,by rw[YT hj hp,Nat.zero_add],hB⟩
theorem GA {n:Nat} {seen:List Nat} {i:Nat}:i∈cB n seen↔i<n∧i∉seen:=by
 simp[cB]
theorem AS8 {r:Sy} {es:List (Int×r.den)} {seen:List Nat} {i:Nat} (hi:i<es.length) (K:Int→r.den→Prop) (hk:K es[i].1 es[i].2):AS7 (.int .i64) false r (List.map (eI r) es) (seen++[i]) K :=
 ⟨i,es[i].1,es[i].2,by simp,by simp[hi],hk⟩
theorem AGQ {n:Nat} {seen:List Nat} (hn:seen.Nodup) (hl:∀ i∈seen,i<n) (h:cB n seen=[]):seen.Perm (List.range n):=by
 refine (List.perm_ext_iff_of_nodup hn List.nodup_range).2 fun i=>⟨fun hi=>List.mem_range.2 (hl i hi),fun hi=>?_⟩
 refine Classical.byContradiction fun hc=>?_
 have:i∈cB n seen:=GA.2 ⟨List.mem_range.1 hi,hc⟩
 rw[h] at this
 cases this
theorem TR {n i:Nat} {seen:List Nat} (h:i∈cB n seen):(cB n (seen++[i])).length<(cB n seen).length:=by
 have e:cB n (seen++[i])=(cB n seen).filter fun x=>decide (x≠i):=by
  unfold cB
  rw[List.filter_filter]
  refine List.filter_congr fun x _=>?_
  by_cases hx:x=i<;>by_cases hs:x∈seen<;>simp[hx,hs]
 rw[e]
 exact List.length_filter_lt_length_iff_exists.2 ⟨i,h,by simp⟩
theorem AAS (n:Nat):(cB n []).length=n:=by unfold cB;rw[List.filter_eq_self.2 (by simp)];simp
theorem ANH {ks l:List Int} (hp:ks.Pairwise (· < ·)) (h:l.Perm ks):l.mergeSort (fun x y=>decide (x≤y))=ks:=by
 have h1:(l.mergeSort fun x y=>decide (x≤y)).Pairwise (fun a b=>decide (a≤b)=true):=List.pairwise_mergeSort (fun a b c h1 h2=>by simp at *;omega) (fun a b=>by simp;omega) l
 have h2:(l.mergeSort fun x y=>decide (x≤y)).Perm ks:=(List.mergeSort_perm l _).trans h
 refine List.Perm.eq_of_pairwise (le:=fun a b=>decide (a≤b)=true) ?_ h1 (hp.imp fun h=>by simp;omega) h2
 intro a b _ _ h3 h4
 simp at h3 h4;omega
end Go.Pv
