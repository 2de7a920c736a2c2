/-
  Facts on the types of this program, printed by a program of mine (gen_tables.py): sizes, offsets, zero values. Each is a closed computation.
-/
import Derived.Test.YtnepemjcinpohaaProg
import Derived.Test.YtnepemjcinpohaaPvn
import Derived.KernelRfl
namespace Go.Pv
open Go Go.Proofs
theorem mixed : Try.prog.follows .mixedOrders = true := by kernel_rfl
@[simp] theorem tsz1 : tsz? Try.prog 1 = some 1 := by kernel_rfl
@[simp] theorem ag1 : aggOf Try.prog 1 = some false := by kernel_rfl
@[simp] theorem tby1 : tby? Try.prog 1 = some 8 := by kernel_rfl
@[simp] theorem tz1 : tz? Try.prog 1 = some (.nilFunc) := by kernel_rfl
@[simp] theorem el1 : elemT Try.prog 1 = none := by kernel_rfl
@[simp] theorem ar1 : arrOf Try.prog 1 = none := by kernel_rfl
@[simp] theorem tsz2 : tsz? Try.prog 2 = some 1 := by kernel_rfl
@[simp] theorem ag2 : aggOf Try.prog 2 = some false := by kernel_rfl
@[simp] theorem tby2 : tby? Try.prog 2 = some 8 := by kernel_rfl
@[simp] theorem tz2 : tz? Try.prog 2 = some (.int .i64 0) := by kernel_rfl
@[simp] theorem el2 : elemT Try.prog 2 = none := by kernel_rfl
@[simp] theorem ar2 : arrOf Try.prog 2 = none := by kernel_rfl
@[simp] theorem un2 : Try.prog.underlying 2 = some (.int .i64) := by kernel_rfl
@[simp] theorem tsz3 : tsz? Try.prog 3 = some 1 := by kernel_rfl
@[simp] theorem ag3 : aggOf Try.prog 3 = some false := by kernel_rfl
@[simp] theorem tby3 : tby? Try.prog 3 = some 8 := by kernel_rfl
@[simp] theorem tz3 : tz? Try.prog 3 = some (.int .i64 0) := by kernel_rfl
@[simp] theorem el3 : elemT Try.prog 3 = none := by kernel_rfl
@[simp] theorem ar3 : arrOf Try.prog 3 = none := by kernel_rfl
@[simp] theorem un3 : Try.prog.underlying 3 = some (.int .i64) := by kernel_rfl
@[simp] theorem tsz4 : tsz? Try.prog 4 = some 1 := by kernel_rfl
@[simp] theorem ag4 : aggOf Try.prog 4 = some false := by kernel_rfl
@[simp] theorem tby4 : tby? Try.prog 4 = some 1 := by kernel_rfl
@[simp] theorem tz4 : tz? Try.prog 4 = some (.bool false) := by kernel_rfl
@[simp] theorem el4 : elemT Try.prog 4 = none := by kernel_rfl
@[simp] theorem ar4 : arrOf Try.prog 4 = none := by kernel_rfl
@[simp] theorem un4 : Try.prog.underlying 4 = some .bool := by kernel_rfl
@[simp] theorem tsz5 : tsz? Try.prog 5 = some 1 := by kernel_rfl
@[simp] theorem ag5 : aggOf Try.prog 5 = some false := by kernel_rfl
@[simp] theorem tby5 : tby? Try.prog 5 = some 1 := by kernel_rfl
@[simp] theorem tz5 : tz? Try.prog 5 = some (.int .u8 0) := by kernel_rfl
@[simp] theorem el5 : elemT Try.prog 5 = none := by kernel_rfl
@[simp] theorem ar5 : arrOf Try.prog 5 = none := by kernel_rfl
@[simp] theorem un5 : Try.prog.underlying 5 = some (.int .u8) := by kernel_rfl
@[simp] theorem tsz6 : tsz? Try.prog 6 = some 1 := by kernel_rfl
@[simp] theorem ag6 : aggOf Try.prog 6 = some false := by kernel_rfl
@[simp] theorem tby6 : tby? Try.prog 6 = some 1 := by kernel_rfl
@[simp] theorem tz6 : tz? Try.prog 6 = some (.int .u8 0) := by kernel_rfl
@[simp] theorem el6 : elemT Try.prog 6 = none := by kernel_rfl
@[simp] theorem ar6 : arrOf Try.prog 6 = none := by kernel_rfl
@[simp] theorem un6 : Try.prog.underlying 6 = some (.int .u8) := by kernel_rfl
@[simp] theorem tsz7 : tsz? Try.prog 7 = some 4 := by kernel_rfl
@[simp] theorem ag7 : aggOf Try.prog 7 = some true := by kernel_rfl
@[simp] theorem tby7 : tby? Try.prog 7 = some 24 := by kernel_rfl
@[simp] theorem tz7 : tz? Try.prog 7 = some (.agg #[.int .i64 0, .int .i64 0, .bool false, .int .u8 0]) := by kernel_rfl
@[simp] theorem el7 : elemT Try.prog 7 = none := by kernel_rfl
@[simp] theorem ar7 : arrOf Try.prog 7 = none := by kernel_rfl
@[simp] theorem fo7_0 : fieldOff Try.prog 7 0 = some 0 := by kernel_rfl
@[simp] theorem ft7_0 : fieldTO Try.prog 7 0 = some (2, 0) := by kernel_rfl
@[simp] theorem fo7_1 : fieldOff Try.prog 7 1 = some 1 := by kernel_rfl
@[simp] theorem ft7_1 : fieldTO Try.prog 7 1 = some (3, 1) := by kernel_rfl
@[simp] theorem fo7_2 : fieldOff Try.prog 7 2 = some 2 := by kernel_rfl
@[simp] theorem ft7_2 : fieldTO Try.prog 7 2 = some (4, 2) := by kernel_rfl
@[simp] theorem fo7_3 : fieldOff Try.prog 7 3 = some 3 := by kernel_rfl
@[simp] theorem ft7_3 : fieldTO Try.prog 7 3 = some (6, 3) := by kernel_rfl
@[simp] theorem pl7 : placesOf Try.prog 7 = some [(0, 1), (1, 1), (2, 1), (3, 1)] := by kernel_rfl
@[simp] theorem tsz8 : tsz? Try.prog 8 = some 4 := by kernel_rfl
@[simp] theorem ag8 : aggOf Try.prog 8 = some true := by kernel_rfl
@[simp] theorem tby8 : tby? Try.prog 8 = some 24 := by kernel_rfl
@[simp] theorem tz8 : tz? Try.prog 8 = some (.agg #[.int .i64 0, .int .i64 0, .bool false, .int .u8 0]) := by kernel_rfl
@[simp] theorem el8 : elemT Try.prog 8 = none := by kernel_rfl
@[simp] theorem ar8 : arrOf Try.prog 8 = none := by kernel_rfl
@[simp] theorem fo8_0 : fieldOff Try.prog 8 0 = some 0 := by kernel_rfl
@[simp] theorem ft8_0 : fieldTO Try.prog 8 0 = some (2, 0) := by kernel_rfl
@[simp] theorem fo8_1 : fieldOff Try.prog 8 1 = some 1 := by kernel_rfl
@[simp] theorem ft8_1 : fieldTO Try.prog 8 1 = some (3, 1) := by kernel_rfl
@[simp] theorem fo8_2 : fieldOff Try.prog 8 2 = some 2 := by kernel_rfl
@[simp] theorem ft8_2 : fieldTO Try.prog 8 2 = some (4, 2) := by kernel_rfl
@[simp] theorem fo8_3 : fieldOff Try.prog 8 3 = some 3 := by kernel_rfl
@[simp] theorem ft8_3 : fieldTO Try.prog 8 3 = some (6, 3) := by kernel_rfl
@[simp] theorem pl8 : placesOf Try.prog 8 = some [(0, 1), (1, 1), (2, 1), (3, 1)] := by kernel_rfl
@[simp] theorem tsz9 : tsz? Try.prog 9 = some 1 := by kernel_rfl
@[simp] theorem ag9 : aggOf Try.prog 9 = some false := by kernel_rfl
@[simp] theorem tby9 : tby? Try.prog 9 = some 16 := by kernel_rfl
@[simp] theorem tz9 : tz? Try.prog 9 = some (.string ⟨#[]⟩) := by kernel_rfl
@[simp] theorem el9 : elemT Try.prog 9 = none := by kernel_rfl
@[simp] theorem ar9 : arrOf Try.prog 9 = none := by kernel_rfl
@[simp] theorem un9 : Try.prog.underlying 9 = some .string := by kernel_rfl
@[simp] theorem tsz10 : tsz? Try.prog 10 = some 1 := by kernel_rfl
@[simp] theorem ag10 : aggOf Try.prog 10 = some false := by kernel_rfl
@[simp] theorem tby10 : tby? Try.prog 10 = some 16 := by kernel_rfl
@[simp] theorem tz10 : tz? Try.prog 10 = some (.string ⟨#[]⟩) := by kernel_rfl
@[simp] theorem el10 : elemT Try.prog 10 = none := by kernel_rfl
@[simp] theorem ar10 : arrOf Try.prog 10 = none := by kernel_rfl
@[simp] theorem un10 : Try.prog.underlying 10 = some .string := by kernel_rfl
@[simp] theorem tsz11 : tsz? Try.prog 11 = some 1 := by kernel_rfl
@[simp] theorem ag11 : aggOf Try.prog 11 = some false := by kernel_rfl
@[simp] theorem tby11 : tby? Try.prog 11 = some 16 := by kernel_rfl
@[simp] theorem tz11 : tz? Try.prog 11 = some (.string ⟨#[]⟩) := by kernel_rfl
@[simp] theorem el11 : elemT Try.prog 11 = none := by kernel_rfl
@[simp] theorem ar11 : arrOf Try.prog 11 = none := by kernel_rfl
@[simp] theorem un11 : Try.prog.underlying 11 = some .string := by kernel_rfl
@[simp] theorem tsz12 : tsz? Try.prog 12 = some 1 := by kernel_rfl
@[simp] theorem ag12 : aggOf Try.prog 12 = some false := by kernel_rfl
@[simp] theorem tby12 : tby? Try.prog 12 = some 8 := by kernel_rfl
@[simp] theorem tz12 : tz? Try.prog 12 = some (.int .u64 0) := by kernel_rfl
@[simp] theorem el12 : elemT Try.prog 12 = none := by kernel_rfl
@[simp] theorem ar12 : arrOf Try.prog 12 = none := by kernel_rfl
@[simp] theorem un12 : Try.prog.underlying 12 = some (.int .u64) := by kernel_rfl
@[simp] theorem tsz13 : tsz? Try.prog 13 = some 2 := by kernel_rfl
@[simp] theorem ag13 : aggOf Try.prog 13 = some true := by kernel_rfl
@[simp] theorem tby13 : tby? Try.prog 13 = some 24 := by kernel_rfl
@[simp] theorem tz13 : tz? Try.prog 13 = some (.agg #[.string ⟨#[]⟩, .int .u64 0]) := by kernel_rfl
@[simp] theorem el13 : elemT Try.prog 13 = none := by kernel_rfl
@[simp] theorem ar13 : arrOf Try.prog 13 = none := by kernel_rfl
@[simp] theorem fo13_0 : fieldOff Try.prog 13 0 = some 0 := by kernel_rfl
@[simp] theorem ft13_0 : fieldTO Try.prog 13 0 = some (9, 0) := by kernel_rfl
@[simp] theorem fo13_1 : fieldOff Try.prog 13 1 = some 1 := by kernel_rfl
@[simp] theorem ft13_1 : fieldTO Try.prog 13 1 = some (12, 1) := by kernel_rfl
@[simp] theorem pl13 : placesOf Try.prog 13 = some [(0, 1), (1, 1)] := by kernel_rfl
@[simp] theorem tsz14 : tsz? Try.prog 14 = some 2 := by kernel_rfl
@[simp] theorem ag14 : aggOf Try.prog 14 = some true := by kernel_rfl
@[simp] theorem tby14 : tby? Try.prog 14 = some 24 := by kernel_rfl
@[simp] theorem tz14 : tz? Try.prog 14 = some (.agg #[.string ⟨#[]⟩, .int .u64 0]) := by kernel_rfl
@[simp] theorem el14 : elemT Try.prog 14 = none := by kernel_rfl
@[simp] theorem ar14 : arrOf Try.prog 14 = none := by kernel_rfl
@[simp] theorem fo14_0 : fieldOff Try.prog 14 0 = some 0 := by kernel_rfl
@[simp] theorem ft14_0 : fieldTO Try.prog 14 0 = some (9, 0) := by kernel_rfl
@[simp] theorem fo14_1 : fieldOff Try.prog 14 1 = some 1 := by kernel_rfl
@[simp] theorem ft14_1 : fieldTO Try.prog 14 1 = some (12, 1) := by kernel_rfl
@[simp] theorem pl14 : placesOf Try.prog 14 = some [(0, 1), (1, 1)] := by kernel_rfl
@[simp] theorem tsz15 : tsz? Try.prog 15 = some 1 := by kernel_rfl
@[simp] theorem ag15 : aggOf Try.prog 15 = some false := by kernel_rfl
@[simp] theorem tby15 : tby? Try.prog 15 = some 8 := by kernel_rfl
@[simp] theorem tz15 : tz? Try.prog 15 = some (.pointer none) := by kernel_rfl
@[simp] theorem el15 : elemT Try.prog 15 = none := by kernel_rfl
@[simp] theorem ar15 : arrOf Try.prog 15 = none := by kernel_rfl
@[simp] theorem tsz16 : tsz? Try.prog 16 = some 1 := by kernel_rfl
@[simp] theorem ag16 : aggOf Try.prog 16 = some false := by kernel_rfl
@[simp] theorem tby16 : tby? Try.prog 16 = some 8 := by kernel_rfl
@[simp] theorem tz16 : tz? Try.prog 16 = some (.pointer none) := by kernel_rfl
@[simp] theorem el16 : elemT Try.prog 16 = none := by kernel_rfl
@[simp] theorem ar16 : arrOf Try.prog 16 = none := by kernel_rfl
@[simp] theorem tsz17 : tsz? Try.prog 17 = some 1 := by kernel_rfl
@[simp] theorem ag17 : aggOf Try.prog 17 = some false := by kernel_rfl
@[simp] theorem tby17 : tby? Try.prog 17 = some 8 := by kernel_rfl
@[simp] theorem tz17 : tz? Try.prog 17 = some (.pointer none) := by kernel_rfl
@[simp] theorem el17 : elemT Try.prog 17 = none := by kernel_rfl
@[simp] theorem ar17 : arrOf Try.prog 17 = none := by kernel_rfl
@[simp] theorem tsz18 : tsz? Try.prog 18 = some 1 := by kernel_rfl
@[simp] theorem ag18 : aggOf Try.prog 18 = some true := by kernel_rfl
@[simp] theorem tby18 : tby? Try.prog 18 = some 8 := by kernel_rfl
@[simp] theorem tz18 : tz? Try.prog 18 = some (.agg #[.pointer none]) := by kernel_rfl
@[simp] theorem el18 : elemT Try.prog 18 = none := by kernel_rfl
@[simp] theorem ar18 : arrOf Try.prog 18 = none := by kernel_rfl
@[simp] theorem fo18_0 : fieldOff Try.prog 18 0 = some 0 := by kernel_rfl
@[simp] theorem ft18_0 : fieldTO Try.prog 18 0 = some (17, 0) := by kernel_rfl
@[simp] theorem pl18 : placesOf Try.prog 18 = some [(0, 1)] := by kernel_rfl
@[simp] theorem tsz19 : tsz? Try.prog 19 = some 1 := by kernel_rfl
@[simp] theorem ag19 : aggOf Try.prog 19 = some true := by kernel_rfl
@[simp] theorem tby19 : tby? Try.prog 19 = some 8 := by kernel_rfl
@[simp] theorem tz19 : tz? Try.prog 19 = some (.agg #[.pointer none]) := by kernel_rfl
@[simp] theorem el19 : elemT Try.prog 19 = none := by kernel_rfl
@[simp] theorem ar19 : arrOf Try.prog 19 = none := by kernel_rfl
@[simp] theorem fo19_0 : fieldOff Try.prog 19 0 = some 0 := by kernel_rfl
@[simp] theorem ft19_0 : fieldTO Try.prog 19 0 = some (17, 0) := by kernel_rfl
@[simp] theorem pl19 : placesOf Try.prog 19 = some [(0, 1)] := by kernel_rfl
@[simp] theorem tsz20 : tsz? Try.prog 20 = some 1 := by kernel_rfl
@[simp] theorem ag20 : aggOf Try.prog 20 = some false := by kernel_rfl
@[simp] theorem tby20 : tby? Try.prog 20 = some 16 := by kernel_rfl
@[simp] theorem tz20 : tz? Try.prog 20 = some (.nilIface) := by kernel_rfl
@[simp] theorem el20 : elemT Try.prog 20 = none := by kernel_rfl
@[simp] theorem ar20 : arrOf Try.prog 20 = none := by kernel_rfl
@[simp] theorem tsz21 : tsz? Try.prog 21 = some 1 := by kernel_rfl
@[simp] theorem ag21 : aggOf Try.prog 21 = some false := by kernel_rfl
@[simp] theorem tby21 : tby? Try.prog 21 = some 4 := by kernel_rfl
@[simp] theorem tz21 : tz? Try.prog 21 = some (.int .i32 0) := by kernel_rfl
@[simp] theorem el21 : elemT Try.prog 21 = none := by kernel_rfl
@[simp] theorem ar21 : arrOf Try.prog 21 = none := by kernel_rfl
@[simp] theorem un21 : Try.prog.underlying 21 = some (.int .i32) := by kernel_rfl
@[simp] theorem tsz22 : tsz? Try.prog 22 = some 1 := by kernel_rfl
@[simp] theorem ag22 : aggOf Try.prog 22 = some false := by kernel_rfl
@[simp] theorem tby22 : tby? Try.prog 22 = some 24 := by kernel_rfl
@[simp] theorem tz22 : tz? Try.prog 22 = some (.slice none 0 0) := by kernel_rfl
@[simp] theorem el22 : elemT Try.prog 22 = some 27 := by kernel_rfl
@[simp] theorem ar22 : arrOf Try.prog 22 = none := by kernel_rfl
@[simp] theorem un22 : Try.prog.underlying 22 = some (.slice 27) := by kernel_rfl
@[simp] theorem tsz23 : tsz? Try.prog 23 = some 1 := by kernel_rfl
@[simp] theorem ag23 : aggOf Try.prog 23 = some false := by kernel_rfl
@[simp] theorem tby23 : tby? Try.prog 23 = some 8 := by kernel_rfl
@[simp] theorem tz23 : tz? Try.prog 23 = some (.nilFunc) := by kernel_rfl
@[simp] theorem el23 : elemT Try.prog 23 = none := by kernel_rfl
@[simp] theorem ar23 : arrOf Try.prog 23 = none := by kernel_rfl
@[simp] theorem tsz24 : tsz? Try.prog 24 = some 1 := by kernel_rfl
@[simp] theorem ag24 : aggOf Try.prog 24 = some false := by kernel_rfl
@[simp] theorem tby24 : tby? Try.prog 24 = some 8 := by kernel_rfl
@[simp] theorem tz24 : tz? Try.prog 24 = some (.nilFunc) := by kernel_rfl
@[simp] theorem el24 : elemT Try.prog 24 = none := by kernel_rfl
@[simp] theorem ar24 : arrOf Try.prog 24 = none := by kernel_rfl
@[simp] theorem tsz25 : tsz? Try.prog 25 = some 1 := by kernel_rfl
@[simp] theorem ag25 : aggOf Try.prog 25 = some false := by kernel_rfl
@[simp] theorem tby25 : tby? Try.prog 25 = some 24 := by kernel_rfl
@[simp] theorem tz25 : tz? Try.prog 25 = some (.slice none 0 0) := by kernel_rfl
@[simp] theorem el25 : elemT Try.prog 25 = some 9 := by kernel_rfl
@[simp] theorem ar25 : arrOf Try.prog 25 = none := by kernel_rfl
@[simp] theorem un25 : Try.prog.underlying 25 = some (.slice 9) := by kernel_rfl
@[simp] theorem tsz26 : tsz? Try.prog 26 = some 6 := by kernel_rfl
@[simp] theorem ag26 : aggOf Try.prog 26 = some true := by kernel_rfl
@[simp] theorem tby26 : tby? Try.prog 26 = some 72 := by kernel_rfl
@[simp] theorem tz26 : tz? Try.prog 26 = some (.agg #[.string ⟨#[]⟩, .int .i64 0, .int .i64 0, .int .i64 0, .slice none 0 0, .int .i64 0]) := by kernel_rfl
@[simp] theorem el26 : elemT Try.prog 26 = none := by kernel_rfl
@[simp] theorem ar26 : arrOf Try.prog 26 = none := by kernel_rfl
@[simp] theorem fo26_0 : fieldOff Try.prog 26 0 = some 0 := by kernel_rfl
@[simp] theorem ft26_0 : fieldTO Try.prog 26 0 = some (9, 0) := by kernel_rfl
@[simp] theorem fo26_1 : fieldOff Try.prog 26 1 = some 1 := by kernel_rfl
@[simp] theorem ft26_1 : fieldTO Try.prog 26 1 = some (3, 1) := by kernel_rfl
@[simp] theorem fo26_2 : fieldOff Try.prog 26 2 = some 2 := by kernel_rfl
@[simp] theorem ft26_2 : fieldTO Try.prog 26 2 = some (3, 2) := by kernel_rfl
@[simp] theorem fo26_3 : fieldOff Try.prog 26 3 = some 3 := by kernel_rfl
@[simp] theorem ft26_3 : fieldTO Try.prog 26 3 = some (3, 3) := by kernel_rfl
@[simp] theorem fo26_4 : fieldOff Try.prog 26 4 = some 4 := by kernel_rfl
@[simp] theorem ft26_4 : fieldTO Try.prog 26 4 = some (25, 4) := by kernel_rfl
@[simp] theorem fo26_5 : fieldOff Try.prog 26 5 = some 5 := by kernel_rfl
@[simp] theorem ft26_5 : fieldTO Try.prog 26 5 = some (3, 5) := by kernel_rfl
@[simp] theorem pl26 : placesOf Try.prog 26 = some [(0, 1), (1, 1), (2, 1), (3, 1), (4, 1), (5, 1)] := by kernel_rfl
@[simp] theorem tsz27 : tsz? Try.prog 27 = some 6 := by kernel_rfl
@[simp] theorem ag27 : aggOf Try.prog 27 = some true := by kernel_rfl
@[simp] theorem tby27 : tby? Try.prog 27 = some 72 := by kernel_rfl
@[simp] theorem tz27 : tz? Try.prog 27 = some (.agg #[.string ⟨#[]⟩, .int .i64 0, .int .i64 0, .int .i64 0, .slice none 0 0, .int .i64 0]) := by kernel_rfl
@[simp] theorem el27 : elemT Try.prog 27 = none := by kernel_rfl
@[simp] theorem ar27 : arrOf Try.prog 27 = none := by kernel_rfl
@[simp] theorem fo27_0 : fieldOff Try.prog 27 0 = some 0 := by kernel_rfl
@[simp] theorem ft27_0 : fieldTO Try.prog 27 0 = some (9, 0) := by kernel_rfl
@[simp] theorem fo27_1 : fieldOff Try.prog 27 1 = some 1 := by kernel_rfl
@[simp] theorem ft27_1 : fieldTO Try.prog 27 1 = some (3, 1) := by kernel_rfl
@[simp] theorem fo27_2 : fieldOff Try.prog 27 2 = some 2 := by kernel_rfl
@[simp] theorem ft27_2 : fieldTO Try.prog 27 2 = some (3, 2) := by kernel_rfl
@[simp] theorem fo27_3 : fieldOff Try.prog 27 3 = some 3 := by kernel_rfl
@[simp] theorem ft27_3 : fieldTO Try.prog 27 3 = some (3, 3) := by kernel_rfl
@[simp] theorem fo27_4 : fieldOff Try.prog 27 4 = some 4 := by kernel_rfl
@[simp] theorem ft27_4 : fieldTO Try.prog 27 4 = some (25, 4) := by kernel_rfl
@[simp] theorem fo27_5 : fieldOff Try.prog 27 5 = some 5 := by kernel_rfl
@[simp] theorem ft27_5 : fieldTO Try.prog 27 5 = some (3, 5) := by kernel_rfl
@[simp] theorem pl27 : placesOf Try.prog 27 = some [(0, 1), (1, 1), (2, 1), (3, 1), (4, 1), (5, 1)] := by kernel_rfl
@[simp] theorem tsz29 : tsz? Try.prog 29 = some 1 := by kernel_rfl
@[simp] theorem ag29 : aggOf Try.prog 29 = some false := by kernel_rfl
@[simp] theorem tby29 : tby? Try.prog 29 = some 8 := by kernel_rfl
@[simp] theorem tz29 : tz? Try.prog 29 = some (.nilFunc) := by kernel_rfl
@[simp] theorem el29 : elemT Try.prog 29 = none := by kernel_rfl
@[simp] theorem ar29 : arrOf Try.prog 29 = none := by kernel_rfl
@[simp] theorem tsz30 : tsz? Try.prog 30 = some 1 := by kernel_rfl
@[simp] theorem ag30 : aggOf Try.prog 30 = some false := by kernel_rfl
@[simp] theorem tby30 : tby? Try.prog 30 = some 8 := by kernel_rfl
@[simp] theorem tz30 : tz? Try.prog 30 = some (.int .i64 0) := by kernel_rfl
@[simp] theorem el30 : elemT Try.prog 30 = none := by kernel_rfl
@[simp] theorem ar30 : arrOf Try.prog 30 = none := by kernel_rfl
@[simp] theorem un30 : Try.prog.underlying 30 = some (.int .i64) := by kernel_rfl
@[simp] theorem tsz31 : tsz? Try.prog 31 = some 1 := by kernel_rfl
@[simp] theorem ag31 : aggOf Try.prog 31 = some false := by kernel_rfl
@[simp] theorem tby31 : tby? Try.prog 31 = some 8 := by kernel_rfl
@[simp] theorem tz31 : tz? Try.prog 31 = some (.nilFunc) := by kernel_rfl
@[simp] theorem el31 : elemT Try.prog 31 = none := by kernel_rfl
@[simp] theorem ar31 : arrOf Try.prog 31 = none := by kernel_rfl
@[simp] theorem tsz32 : tsz? Try.prog 32 = some 1 := by kernel_rfl
@[simp] theorem ag32 : aggOf Try.prog 32 = some false := by kernel_rfl
@[simp] theorem tby32 : tby? Try.prog 32 = some 8 := by kernel_rfl
@[simp] theorem tz32 : tz? Try.prog 32 = some (.nilFunc) := by kernel_rfl
@[simp] theorem el32 : elemT Try.prog 32 = none := by kernel_rfl
@[simp] theorem ar32 : arrOf Try.prog 32 = none := by kernel_rfl
@[simp] theorem tsz33 : tsz? Try.prog 33 = some 1 := by kernel_rfl
@[simp] theorem ag33 : aggOf Try.prog 33 = some false := by kernel_rfl
@[simp] theorem tby33 : tby? Try.prog 33 = some 8 := by kernel_rfl
@[simp] theorem tz33 : tz? Try.prog 33 = some (.nilFunc) := by kernel_rfl
@[simp] theorem el33 : elemT Try.prog 33 = none := by kernel_rfl
@[simp] theorem ar33 : arrOf Try.prog 33 = none := by kernel_rfl
@[simp] theorem tsz34 : tsz? Try.prog 34 = some 3 := by kernel_rfl
@[simp] theorem ag34 : aggOf Try.prog 34 = some true := by kernel_rfl
@[simp] theorem tby34 : tby? Try.prog 34 = some 40 := by kernel_rfl
@[simp] theorem tz34 : tz? Try.prog 34 = some (.agg #[.int .i64 0, .int .i64 0, .slice none 0 0]) := by kernel_rfl
@[simp] theorem el34 : elemT Try.prog 34 = none := by kernel_rfl
@[simp] theorem ar34 : arrOf Try.prog 34 = none := by kernel_rfl
@[simp] theorem fo34_0 : fieldOff Try.prog 34 0 = some 0 := by kernel_rfl
@[simp] theorem ft34_0 : fieldTO Try.prog 34 0 = some (3, 0) := by kernel_rfl
@[simp] theorem fo34_1 : fieldOff Try.prog 34 1 = some 1 := by kernel_rfl
@[simp] theorem ft34_1 : fieldTO Try.prog 34 1 = some (3, 1) := by kernel_rfl
@[simp] theorem fo34_2 : fieldOff Try.prog 34 2 = some 2 := by kernel_rfl
@[simp] theorem ft34_2 : fieldTO Try.prog 34 2 = some (25, 2) := by kernel_rfl
@[simp] theorem pl34 : placesOf Try.prog 34 = some [(0, 1), (1, 1), (2, 1)] := by kernel_rfl
@[simp] theorem tsz35 : tsz? Try.prog 35 = some 3 := by kernel_rfl
@[simp] theorem ag35 : aggOf Try.prog 35 = some true := by kernel_rfl
@[simp] theorem tby35 : tby? Try.prog 35 = some 40 := by kernel_rfl
@[simp] theorem tz35 : tz? Try.prog 35 = some (.agg #[.int .i64 0, .int .i64 0, .slice none 0 0]) := by kernel_rfl
@[simp] theorem el35 : elemT Try.prog 35 = none := by kernel_rfl
@[simp] theorem ar35 : arrOf Try.prog 35 = none := by kernel_rfl
@[simp] theorem fo35_0 : fieldOff Try.prog 35 0 = some 0 := by kernel_rfl
@[simp] theorem ft35_0 : fieldTO Try.prog 35 0 = some (3, 0) := by kernel_rfl
@[simp] theorem fo35_1 : fieldOff Try.prog 35 1 = some 1 := by kernel_rfl
@[simp] theorem ft35_1 : fieldTO Try.prog 35 1 = some (3, 1) := by kernel_rfl
@[simp] theorem fo35_2 : fieldOff Try.prog 35 2 = some 2 := by kernel_rfl
@[simp] theorem ft35_2 : fieldTO Try.prog 35 2 = some (25, 2) := by kernel_rfl
@[simp] theorem pl35 : placesOf Try.prog 35 = some [(0, 1), (1, 1), (2, 1)] := by kernel_rfl
@[simp] theorem tsz36 : tsz? Try.prog 36 = some 1 := by kernel_rfl
@[simp] theorem ag36 : aggOf Try.prog 36 = some false := by kernel_rfl
@[simp] theorem tby36 : tby? Try.prog 36 = some 8 := by kernel_rfl
@[simp] theorem tz36 : tz? Try.prog 36 = some (.nilFunc) := by kernel_rfl
@[simp] theorem el36 : elemT Try.prog 36 = none := by kernel_rfl
@[simp] theorem ar36 : arrOf Try.prog 36 = none := by kernel_rfl
@[simp] theorem tsz37 : tsz? Try.prog 37 = some 1 := by kernel_rfl
@[simp] theorem ag37 : aggOf Try.prog 37 = some false := by kernel_rfl
@[simp] theorem tby37 : tby? Try.prog 37 = some 8 := by kernel_rfl
@[simp] theorem tz37 : tz? Try.prog 37 = some (.nilFunc) := by kernel_rfl
@[simp] theorem el37 : elemT Try.prog 37 = none := by kernel_rfl
@[simp] theorem ar37 : arrOf Try.prog 37 = none := by kernel_rfl
@[simp] theorem tsz38 : tsz? Try.prog 38 = some 1 := by kernel_rfl
@[simp] theorem ag38 : aggOf Try.prog 38 = some false := by kernel_rfl
@[simp] theorem tby38 : tby? Try.prog 38 = some 24 := by kernel_rfl
@[simp] theorem tz38 : tz? Try.prog 38 = some (.slice none 0 0) := by kernel_rfl
@[simp] theorem el38 : elemT Try.prog 38 = some 117 := by kernel_rfl
@[simp] theorem ar38 : arrOf Try.prog 38 = none := by kernel_rfl
@[simp] theorem un38 : Try.prog.underlying 38 = some (.slice 117) := by kernel_rfl
@[simp] theorem tsz39 : tsz? Try.prog 39 = some 1 := by kernel_rfl
@[simp] theorem ag39 : aggOf Try.prog 39 = some false := by kernel_rfl
@[simp] theorem tby39 : tby? Try.prog 39 = some 24 := by kernel_rfl
@[simp] theorem tz39 : tz? Try.prog 39 = some (.slice none 0 0) := by kernel_rfl
@[simp] theorem el39 : elemT Try.prog 39 = some 69 := by kernel_rfl
@[simp] theorem ar39 : arrOf Try.prog 39 = none := by kernel_rfl
@[simp] theorem un39 : Try.prog.underlying 39 = some (.slice 69) := by kernel_rfl
@[simp] theorem tsz40 : tsz? Try.prog 40 = some 1 := by kernel_rfl
@[simp] theorem ag40 : aggOf Try.prog 40 = some false := by kernel_rfl
@[simp] theorem tby40 : tby? Try.prog 40 = some 24 := by kernel_rfl
@[simp] theorem tz40 : tz? Try.prog 40 = some (.slice none 0 0) := by kernel_rfl
@[simp] theorem el40 : elemT Try.prog 40 = some 55 := by kernel_rfl
@[simp] theorem ar40 : arrOf Try.prog 40 = none := by kernel_rfl
@[simp] theorem un40 : Try.prog.underlying 40 = some (.slice 55) := by kernel_rfl
@[simp] theorem tsz41 : tsz? Try.prog 41 = some 1 := by kernel_rfl
@[simp] theorem ag41 : aggOf Try.prog 41 = some false := by kernel_rfl
@[simp] theorem tby41 : tby? Try.prog 41 = some 24 := by kernel_rfl
@[simp] theorem tz41 : tz? Try.prog 41 = some (.slice none 0 0) := by kernel_rfl
@[simp] theorem el41 : elemT Try.prog 41 = some 119 := by kernel_rfl
@[simp] theorem ar41 : arrOf Try.prog 41 = none := by kernel_rfl
@[simp] theorem un41 : Try.prog.underlying 41 = some (.slice 119) := by kernel_rfl
@[simp] theorem tsz42 : tsz? Try.prog 42 = some 1 := by kernel_rfl
@[simp] theorem ag42 : aggOf Try.prog 42 = some false := by kernel_rfl
@[simp] theorem tby42 : tby? Try.prog 42 = some 24 := by kernel_rfl
@[simp] theorem tz42 : tz? Try.prog 42 = some (.slice none 0 0) := by kernel_rfl
@[simp] theorem el42 : elemT Try.prog 42 = some 121 := by kernel_rfl
@[simp] theorem ar42 : arrOf Try.prog 42 = none := by kernel_rfl
@[simp] theorem un42 : Try.prog.underlying 42 = some (.slice 121) := by kernel_rfl
@[simp] theorem tsz43 : tsz? Try.prog 43 = some 6 := by kernel_rfl
@[simp] theorem ag43 : aggOf Try.prog 43 = some true := by kernel_rfl
@[simp] theorem tby43 : tby? Try.prog 43 = some 136 := by kernel_rfl
@[simp] theorem tz43 : tz? Try.prog 43 = some (.agg #[.string ⟨#[]⟩, .slice none 0 0, .slice none 0 0, .slice none 0 0, .slice none 0 0, .slice none 0 0]) := by kernel_rfl
@[simp] theorem el43 : elemT Try.prog 43 = none := by kernel_rfl
@[simp] theorem ar43 : arrOf Try.prog 43 = none := by kernel_rfl
@[simp] theorem fo43_0 : fieldOff Try.prog 43 0 = some 0 := by kernel_rfl
@[simp] theorem ft43_0 : fieldTO Try.prog 43 0 = some (9, 0) := by kernel_rfl
@[simp] theorem fo43_1 : fieldOff Try.prog 43 1 = some 1 := by kernel_rfl
@[simp] theorem ft43_1 : fieldTO Try.prog 43 1 = some (38, 1) := by kernel_rfl
@[simp] theorem fo43_2 : fieldOff Try.prog 43 2 = some 2 := by kernel_rfl
@[simp] theorem ft43_2 : fieldTO Try.prog 43 2 = some (39, 2) := by kernel_rfl
@[simp] theorem fo43_3 : fieldOff Try.prog 43 3 = some 3 := by kernel_rfl
@[simp] theorem ft43_3 : fieldTO Try.prog 43 3 = some (40, 3) := by kernel_rfl
@[simp] theorem fo43_4 : fieldOff Try.prog 43 4 = some 4 := by kernel_rfl
@[simp] theorem ft43_4 : fieldTO Try.prog 43 4 = some (41, 4) := by kernel_rfl
@[simp] theorem fo43_5 : fieldOff Try.prog 43 5 = some 5 := by kernel_rfl
@[simp] theorem ft43_5 : fieldTO Try.prog 43 5 = some (42, 5) := by kernel_rfl
@[simp] theorem pl43 : placesOf Try.prog 43 = some [(0, 1), (1, 1), (2, 1), (3, 1), (4, 1), (5, 1)] := by kernel_rfl
@[simp] theorem tsz44 : tsz? Try.prog 44 = some 6 := by kernel_rfl
@[simp] theorem ag44 : aggOf Try.prog 44 = some true := by kernel_rfl
@[simp] theorem tby44 : tby? Try.prog 44 = some 136 := by kernel_rfl
@[simp] theorem tz44 : tz? Try.prog 44 = some (.agg #[.string ⟨#[]⟩, .slice none 0 0, .slice none 0 0, .slice none 0 0, .slice none 0 0, .slice none 0 0]) := by kernel_rfl
@[simp] theorem el44 : elemT Try.prog 44 = none := by kernel_rfl
@[simp] theorem ar44 : arrOf Try.prog 44 = none := by kernel_rfl
@[simp] theorem fo44_0 : fieldOff Try.prog 44 0 = some 0 := by kernel_rfl
@[simp] theorem ft44_0 : fieldTO Try.prog 44 0 = some (9, 0) := by kernel_rfl
@[simp] theorem fo44_1 : fieldOff Try.prog 44 1 = some 1 := by kernel_rfl
@[simp] theorem ft44_1 : fieldTO Try.prog 44 1 = some (38, 1) := by kernel_rfl
@[simp] theorem fo44_2 : fieldOff Try.prog 44 2 = some 2 := by kernel_rfl
@[simp] theorem ft44_2 : fieldTO Try.prog 44 2 = some (39, 2) := by kernel_rfl
@[simp] theorem fo44_3 : fieldOff Try.prog 44 3 = some 3 := by kernel_rfl
@[simp] theorem ft44_3 : fieldTO Try.prog 44 3 = some (40, 3) := by kernel_rfl
@[simp] theorem fo44_4 : fieldOff Try.prog 44 4 = some 4 := by kernel_rfl
@[simp] theorem ft44_4 : fieldTO Try.prog 44 4 = some (41, 4) := by kernel_rfl
@[simp] theorem fo44_5 : fieldOff Try.prog 44 5 = some 5 := by kernel_rfl
@[simp] theorem ft44_5 : fieldTO Try.prog 44 5 = some (42, 5) := by kernel_rfl
@[simp] theorem pl44 : placesOf Try.prog 44 = some [(0, 1), (1, 1), (2, 1), (3, 1), (4, 1), (5, 1)] := by kernel_rfl
@[simp] theorem tsz45 : tsz? Try.prog 45 = some 1 := by kernel_rfl
@[simp] theorem ag45 : aggOf Try.prog 45 = some false := by kernel_rfl
@[simp] theorem tby45 : tby? Try.prog 45 = some 24 := by kernel_rfl
@[simp] theorem tz45 : tz? Try.prog 45 = some (.slice none 0 0) := by kernel_rfl
@[simp] theorem el45 : elemT Try.prog 45 = some 124 := by kernel_rfl
@[simp] theorem ar45 : arrOf Try.prog 45 = none := by kernel_rfl
@[simp] theorem un45 : Try.prog.underlying 45 = some (.slice 124) := by kernel_rfl
@[simp] theorem tsz46 : tsz? Try.prog 46 = some 1 := by kernel_rfl
@[simp] theorem ag46 : aggOf Try.prog 46 = some false := by kernel_rfl
@[simp] theorem tby46 : tby? Try.prog 46 = some 24 := by kernel_rfl
@[simp] theorem tz46 : tz? Try.prog 46 = some (.slice none 0 0) := by kernel_rfl
@[simp] theorem el46 : elemT Try.prog 46 = some 95 := by kernel_rfl
@[simp] theorem ar46 : arrOf Try.prog 46 = none := by kernel_rfl
@[simp] theorem un46 : Try.prog.underlying 46 = some (.slice 95) := by kernel_rfl
@[simp] theorem tsz47 : tsz? Try.prog 47 = some 2 := by kernel_rfl
@[simp] theorem ag47 : aggOf Try.prog 47 = some true := by kernel_rfl
@[simp] theorem tby47 : tby? Try.prog 47 = some 48 := by kernel_rfl
@[simp] theorem tz47 : tz? Try.prog 47 = some (.agg #[.slice none 0 0, .slice none 0 0]) := by kernel_rfl
@[simp] theorem el47 : elemT Try.prog 47 = none := by kernel_rfl
@[simp] theorem ar47 : arrOf Try.prog 47 = none := by kernel_rfl
@[simp] theorem fo47_0 : fieldOff Try.prog 47 0 = some 0 := by kernel_rfl
@[simp] theorem ft47_0 : fieldTO Try.prog 47 0 = some (45, 0) := by kernel_rfl
@[simp] theorem fo47_1 : fieldOff Try.prog 47 1 = some 1 := by kernel_rfl
@[simp] theorem ft47_1 : fieldTO Try.prog 47 1 = some (46, 1) := by kernel_rfl
@[simp] theorem pl47 : placesOf Try.prog 47 = some [(0, 1), (1, 1)] := by kernel_rfl
@[simp] theorem tsz48 : tsz? Try.prog 48 = some 2 := by kernel_rfl
@[simp] theorem ag48 : aggOf Try.prog 48 = some true := by kernel_rfl
@[simp] theorem tby48 : tby? Try.prog 48 = some 48 := by kernel_rfl
@[simp] theorem tz48 : tz? Try.prog 48 = some (.agg #[.slice none 0 0, .slice none 0 0]) := by kernel_rfl
@[simp] theorem el48 : elemT Try.prog 48 = none := by kernel_rfl
@[simp] theorem ar48 : arrOf Try.prog 48 = none := by kernel_rfl
@[simp] theorem fo48_0 : fieldOff Try.prog 48 0 = some 0 := by kernel_rfl
@[simp] theorem ft48_0 : fieldTO Try.prog 48 0 = some (45, 0) := by kernel_rfl
@[simp] theorem fo48_1 : fieldOff Try.prog 48 1 = some 1 := by kernel_rfl
@[simp] theorem ft48_1 : fieldTO Try.prog 48 1 = some (46, 1) := by kernel_rfl
@[simp] theorem pl48 : placesOf Try.prog 48 = some [(0, 1), (1, 1)] := by kernel_rfl
@[simp] theorem tsz49 : tsz? Try.prog 49 = some 9 := by kernel_rfl
@[simp] theorem ag49 : aggOf Try.prog 49 = some true := by kernel_rfl
@[simp] theorem tby49 : tby? Try.prog 49 = some 200 := by kernel_rfl
@[simp] theorem tz49 : tz? Try.prog 49 = some (.agg #[.string ⟨#[]⟩, .slice none 0 0, .slice none 0 0, .slice none 0 0, .slice none 0 0, .slice none 0 0, .slice none 0 0, .slice none 0 0, .string ⟨#[]⟩]) := by kernel_rfl
@[simp] theorem el49 : elemT Try.prog 49 = none := by kernel_rfl
@[simp] theorem ar49 : arrOf Try.prog 49 = none := by kernel_rfl
@[simp] theorem fo49_0 : fieldOff Try.prog 49 0 = some 0 := by kernel_rfl
@[simp] theorem ft49_0 : fieldTO Try.prog 49 0 = some (44, 0) := by kernel_rfl
@[simp] theorem fo49_1 : fieldOff Try.prog 49 1 = some 6 := by kernel_rfl
@[simp] theorem ft49_1 : fieldTO Try.prog 49 1 = some (48, 6) := by kernel_rfl
@[simp] theorem fo49_2 : fieldOff Try.prog 49 2 = some 8 := by kernel_rfl
@[simp] theorem ft49_2 : fieldTO Try.prog 49 2 = some (9, 8) := by kernel_rfl
@[simp] theorem pl49 : placesOf Try.prog 49 = some [(0, 6), (6, 2), (8, 1)] := by kernel_rfl
@[simp] theorem tsz50 : tsz? Try.prog 50 = some 9 := by kernel_rfl
@[simp] theorem ag50 : aggOf Try.prog 50 = some true := by kernel_rfl
@[simp] theorem tby50 : tby? Try.prog 50 = some 200 := by kernel_rfl
@[simp] theorem tz50 : tz? Try.prog 50 = some (.agg #[.string ⟨#[]⟩, .slice none 0 0, .slice none 0 0, .slice none 0 0, .slice none 0 0, .slice none 0 0, .slice none 0 0, .slice none 0 0, .string ⟨#[]⟩]) := by kernel_rfl
@[simp] theorem el50 : elemT Try.prog 50 = none := by kernel_rfl
@[simp] theorem ar50 : arrOf Try.prog 50 = none := by kernel_rfl
@[simp] theorem fo50_0 : fieldOff Try.prog 50 0 = some 0 := by kernel_rfl
@[simp] theorem ft50_0 : fieldTO Try.prog 50 0 = some (44, 0) := by kernel_rfl
@[simp] theorem fo50_1 : fieldOff Try.prog 50 1 = some 6 := by kernel_rfl
@[simp] theorem ft50_1 : fieldTO Try.prog 50 1 = some (48, 6) := by kernel_rfl
@[simp] theorem fo50_2 : fieldOff Try.prog 50 2 = some 8 := by kernel_rfl
@[simp] theorem ft50_2 : fieldTO Try.prog 50 2 = some (9, 8) := by kernel_rfl
@[simp] theorem pl50 : placesOf Try.prog 50 = some [(0, 6), (6, 2), (8, 1)] := by kernel_rfl
@[simp] theorem tsz51 : tsz? Try.prog 51 = some 1 := by kernel_rfl
@[simp] theorem ag51 : aggOf Try.prog 51 = some false := by kernel_rfl
@[simp] theorem tby51 : tby? Try.prog 51 = some 8 := by kernel_rfl
@[simp] theorem tz51 : tz? Try.prog 51 = some (.nilFunc) := by kernel_rfl
@[simp] theorem el51 : elemT Try.prog 51 = none := by kernel_rfl
@[simp] theorem ar51 : arrOf Try.prog 51 = none := by kernel_rfl
@[simp] theorem tsz52 : tsz? Try.prog 52 = some 1 := by kernel_rfl
@[simp] theorem ag52 : aggOf Try.prog 52 = some false := by kernel_rfl
@[simp] theorem tby52 : tby? Try.prog 52 = some 8 := by kernel_rfl
@[simp] theorem tz52 : tz? Try.prog 52 = some (.nilFunc) := by kernel_rfl
@[simp] theorem el52 : elemT Try.prog 52 = none := by kernel_rfl
@[simp] theorem ar52 : arrOf Try.prog 52 = none := by kernel_rfl
@[simp] theorem tsz53 : tsz? Try.prog 53 = some 1 := by kernel_rfl
@[simp] theorem ag53 : aggOf Try.prog 53 = some false := by kernel_rfl
@[simp] theorem tby53 : tby? Try.prog 53 = some 8 := by kernel_rfl
@[simp] theorem tz53 : tz? Try.prog 53 = some (.nilFunc) := by kernel_rfl
@[simp] theorem el53 : elemT Try.prog 53 = none := by kernel_rfl
@[simp] theorem ar53 : arrOf Try.prog 53 = none := by kernel_rfl
@[simp] theorem tsz54 : tsz? Try.prog 54 = some 6 := by kernel_rfl
@[simp] theorem ag54 : aggOf Try.prog 54 = some true := by kernel_rfl
@[simp] theorem tby54 : tby? Try.prog 54 = some 72 := by kernel_rfl
@[simp] theorem tz54 : tz? Try.prog 54 = some (.agg #[.string ⟨#[]⟩, .string ⟨#[]⟩, .string ⟨#[]⟩, .int .i64 0, .int .i64 0, .int .i64 0]) := by kernel_rfl
@[simp] theorem el54 : elemT Try.prog 54 = none := by kernel_rfl
@[simp] theorem ar54 : arrOf Try.prog 54 = none := by kernel_rfl
@[simp] theorem fo54_0 : fieldOff Try.prog 54 0 = some 0 := by kernel_rfl
@[simp] theorem ft54_0 : fieldTO Try.prog 54 0 = some (9, 0) := by kernel_rfl
@[simp] theorem fo54_1 : fieldOff Try.prog 54 1 = some 1 := by kernel_rfl
@[simp] theorem ft54_1 : fieldTO Try.prog 54 1 = some (9, 1) := by kernel_rfl
@[simp] theorem fo54_2 : fieldOff Try.prog 54 2 = some 2 := by kernel_rfl
@[simp] theorem ft54_2 : fieldTO Try.prog 54 2 = some (9, 2) := by kernel_rfl
@[simp] theorem fo54_3 : fieldOff Try.prog 54 3 = some 3 := by kernel_rfl
@[simp] theorem ft54_3 : fieldTO Try.prog 54 3 = some (3, 3) := by kernel_rfl
@[simp] theorem fo54_4 : fieldOff Try.prog 54 4 = some 4 := by kernel_rfl
@[simp] theorem ft54_4 : fieldTO Try.prog 54 4 = some (3, 4) := by kernel_rfl
@[simp] theorem fo54_5 : fieldOff Try.prog 54 5 = some 5 := by kernel_rfl
@[simp] theorem ft54_5 : fieldTO Try.prog 54 5 = some (3, 5) := by kernel_rfl
@[simp] theorem pl54 : placesOf Try.prog 54 = some [(0, 1), (1, 1), (2, 1), (3, 1), (4, 1), (5, 1)] := by kernel_rfl
@[simp] theorem tsz55 : tsz? Try.prog 55 = some 6 := by kernel_rfl
@[simp] theorem ag55 : aggOf Try.prog 55 = some true := by kernel_rfl
@[simp] theorem tby55 : tby? Try.prog 55 = some 72 := by kernel_rfl
@[simp] theorem tz55 : tz? Try.prog 55 = some (.agg #[.string ⟨#[]⟩, .string ⟨#[]⟩, .string ⟨#[]⟩, .int .i64 0, .int .i64 0, .int .i64 0]) := by kernel_rfl
@[simp] theorem el55 : elemT Try.prog 55 = none := by kernel_rfl
@[simp] theorem ar55 : arrOf Try.prog 55 = none := by kernel_rfl
@[simp] theorem fo55_0 : fieldOff Try.prog 55 0 = some 0 := by kernel_rfl
@[simp] theorem ft55_0 : fieldTO Try.prog 55 0 = some (9, 0) := by kernel_rfl
@[simp] theorem fo55_1 : fieldOff Try.prog 55 1 = some 1 := by kernel_rfl
@[simp] theorem ft55_1 : fieldTO Try.prog 55 1 = some (9, 1) := by kernel_rfl
@[simp] theorem fo55_2 : fieldOff Try.prog 55 2 = some 2 := by kernel_rfl
@[simp] theorem ft55_2 : fieldTO Try.prog 55 2 = some (9, 2) := by kernel_rfl
@[simp] theorem fo55_3 : fieldOff Try.prog 55 3 = some 3 := by kernel_rfl
@[simp] theorem ft55_3 : fieldTO Try.prog 55 3 = some (3, 3) := by kernel_rfl
@[simp] theorem fo55_4 : fieldOff Try.prog 55 4 = some 4 := by kernel_rfl
@[simp] theorem ft55_4 : fieldTO Try.prog 55 4 = some (3, 4) := by kernel_rfl
@[simp] theorem fo55_5 : fieldOff Try.prog 55 5 = some 5 := by kernel_rfl
@[simp] theorem ft55_5 : fieldTO Try.prog 55 5 = some (3, 5) := by kernel_rfl
@[simp] theorem pl55 : placesOf Try.prog 55 = some [(0, 1), (1, 1), (2, 1), (3, 1), (4, 1), (5, 1)] := by kernel_rfl
@[simp] theorem tsz56 : tsz? Try.prog 56 = some 1 := by kernel_rfl
@[simp] theorem ag56 : aggOf Try.prog 56 = some false := by kernel_rfl
@[simp] theorem tby56 : tby? Try.prog 56 = some 8 := by kernel_rfl
@[simp] theorem tz56 : tz? Try.prog 56 = some (.nilFunc) := by kernel_rfl
@[simp] theorem el56 : elemT Try.prog 56 = none := by kernel_rfl
@[simp] theorem ar56 : arrOf Try.prog 56 = none := by kernel_rfl
@[simp] theorem tsz57 : tsz? Try.prog 57 = some 1 := by kernel_rfl
@[simp] theorem ag57 : aggOf Try.prog 57 = some false := by kernel_rfl
@[simp] theorem tby57 : tby? Try.prog 57 = some 8 := by kernel_rfl
@[simp] theorem tz57 : tz? Try.prog 57 = some (.nilFunc) := by kernel_rfl
@[simp] theorem el57 : elemT Try.prog 57 = none := by kernel_rfl
@[simp] theorem ar57 : arrOf Try.prog 57 = none := by kernel_rfl
@[simp] theorem tsz58 : tsz? Try.prog 58 = some 1 := by kernel_rfl
@[simp] theorem ag58 : aggOf Try.prog 58 = some false := by kernel_rfl
@[simp] theorem tby58 : tby? Try.prog 58 = some 8 := by kernel_rfl
@[simp] theorem tz58 : tz? Try.prog 58 = some (.nilFunc) := by kernel_rfl
@[simp] theorem el58 : elemT Try.prog 58 = none := by kernel_rfl
@[simp] theorem ar58 : arrOf Try.prog 58 = none := by kernel_rfl
@[simp] theorem tsz59 : tsz? Try.prog 59 = some 1 := by kernel_rfl
@[simp] theorem ag59 : aggOf Try.prog 59 = some false := by kernel_rfl
@[simp] theorem tby59 : tby? Try.prog 59 = some 8 := by kernel_rfl
@[simp] theorem tz59 : tz? Try.prog 59 = some (.nilFunc) := by kernel_rfl
@[simp] theorem el59 : elemT Try.prog 59 = none := by kernel_rfl
@[simp] theorem ar59 : arrOf Try.prog 59 = none := by kernel_rfl
@[simp] theorem tsz60 : tsz? Try.prog 60 = some 1 := by kernel_rfl
@[simp] theorem ag60 : aggOf Try.prog 60 = some false := by kernel_rfl
@[simp] theorem tby60 : tby? Try.prog 60 = some 24 := by kernel_rfl
@[simp] theorem tz60 : tz? Try.prog 60 = some (.slice none 0 0) := by kernel_rfl
@[simp] theorem el60 : elemT Try.prog 60 = some 91 := by kernel_rfl
@[simp] theorem ar60 : arrOf Try.prog 60 = none := by kernel_rfl
@[simp] theorem un60 : Try.prog.underlying 60 = some (.slice 91) := by kernel_rfl
@[simp] theorem tsz61 : tsz? Try.prog 61 = some 1 := by kernel_rfl
@[simp] theorem ag61 : aggOf Try.prog 61 = some false := by kernel_rfl
@[simp] theorem tby61 : tby? Try.prog 61 = some 24 := by kernel_rfl
@[simp] theorem tz61 : tz? Try.prog 61 = some (.slice none 0 0) := by kernel_rfl
@[simp] theorem el61 : elemT Try.prog 61 = some 60 := by kernel_rfl
@[simp] theorem ar61 : arrOf Try.prog 61 = none := by kernel_rfl
@[simp] theorem un61 : Try.prog.underlying 61 = some (.slice 60) := by kernel_rfl
@[simp] theorem tsz62 : tsz? Try.prog 62 = some 2 := by kernel_rfl
@[simp] theorem ag62 : aggOf Try.prog 62 = some true := by kernel_rfl
@[simp] theorem tby62 : tby? Try.prog 62 = some 48 := by kernel_rfl
@[simp] theorem tz62 : tz? Try.prog 62 = some (.agg #[.slice none 0 0, .slice none 0 0]) := by kernel_rfl
@[simp] theorem el62 : elemT Try.prog 62 = none := by kernel_rfl
@[simp] theorem ar62 : arrOf Try.prog 62 = none := by kernel_rfl
@[simp] theorem fo62_0 : fieldOff Try.prog 62 0 = some 0 := by kernel_rfl
@[simp] theorem ft62_0 : fieldTO Try.prog 62 0 = some (60, 0) := by kernel_rfl
@[simp] theorem fo62_1 : fieldOff Try.prog 62 1 = some 1 := by kernel_rfl
@[simp] theorem ft62_1 : fieldTO Try.prog 62 1 = some (61, 1) := by kernel_rfl
@[simp] theorem pl62 : placesOf Try.prog 62 = some [(0, 1), (1, 1)] := by kernel_rfl
@[simp] theorem tsz63 : tsz? Try.prog 63 = some 2 := by kernel_rfl
@[simp] theorem ag63 : aggOf Try.prog 63 = some true := by kernel_rfl
@[simp] theorem tby63 : tby? Try.prog 63 = some 48 := by kernel_rfl
@[simp] theorem tz63 : tz? Try.prog 63 = some (.agg #[.slice none 0 0, .slice none 0 0]) := by kernel_rfl
@[simp] theorem el63 : elemT Try.prog 63 = none := by kernel_rfl
@[simp] theorem ar63 : arrOf Try.prog 63 = none := by kernel_rfl
@[simp] theorem fo63_0 : fieldOff Try.prog 63 0 = some 0 := by kernel_rfl
@[simp] theorem ft63_0 : fieldTO Try.prog 63 0 = some (60, 0) := by kernel_rfl
@[simp] theorem fo63_1 : fieldOff Try.prog 63 1 = some 1 := by kernel_rfl
@[simp] theorem ft63_1 : fieldTO Try.prog 63 1 = some (61, 1) := by kernel_rfl
@[simp] theorem pl63 : placesOf Try.prog 63 = some [(0, 1), (1, 1)] := by kernel_rfl
@[simp] theorem tsz64 : tsz? Try.prog 64 = some 3 := by kernel_rfl
@[simp] theorem ag64 : aggOf Try.prog 64 = some true := by kernel_rfl
@[simp] theorem tby64 : tby? Try.prog 64 = some 24 := by kernel_rfl
@[simp] theorem tz64 : tz? Try.prog 64 = some (.agg #[.int .i64 0, .int .i64 0, .int .i64 0]) := by kernel_rfl
@[simp] theorem el64 : elemT Try.prog 64 = none := by kernel_rfl
@[simp] theorem ar64 : arrOf Try.prog 64 = none := by kernel_rfl
@[simp] theorem fo64_0 : fieldOff Try.prog 64 0 = some 0 := by kernel_rfl
@[simp] theorem ft64_0 : fieldTO Try.prog 64 0 = some (3, 0) := by kernel_rfl
@[simp] theorem fo64_1 : fieldOff Try.prog 64 1 = some 1 := by kernel_rfl
@[simp] theorem ft64_1 : fieldTO Try.prog 64 1 = some (3, 1) := by kernel_rfl
@[simp] theorem fo64_2 : fieldOff Try.prog 64 2 = some 2 := by kernel_rfl
@[simp] theorem ft64_2 : fieldTO Try.prog 64 2 = some (3, 2) := by kernel_rfl
@[simp] theorem pl64 : placesOf Try.prog 64 = some [(0, 1), (1, 1), (2, 1)] := by kernel_rfl
@[simp] theorem tsz65 : tsz? Try.prog 65 = some 3 := by kernel_rfl
@[simp] theorem ag65 : aggOf Try.prog 65 = some true := by kernel_rfl
@[simp] theorem tby65 : tby? Try.prog 65 = some 24 := by kernel_rfl
@[simp] theorem tz65 : tz? Try.prog 65 = some (.agg #[.int .i64 0, .int .i64 0, .int .i64 0]) := by kernel_rfl
@[simp] theorem el65 : elemT Try.prog 65 = none := by kernel_rfl
@[simp] theorem ar65 : arrOf Try.prog 65 = none := by kernel_rfl
@[simp] theorem fo65_0 : fieldOff Try.prog 65 0 = some 0 := by kernel_rfl
@[simp] theorem ft65_0 : fieldTO Try.prog 65 0 = some (3, 0) := by kernel_rfl
@[simp] theorem fo65_1 : fieldOff Try.prog 65 1 = some 1 := by kernel_rfl
@[simp] theorem ft65_1 : fieldTO Try.prog 65 1 = some (3, 1) := by kernel_rfl
@[simp] theorem fo65_2 : fieldOff Try.prog 65 2 = some 2 := by kernel_rfl
@[simp] theorem ft65_2 : fieldTO Try.prog 65 2 = some (3, 2) := by kernel_rfl
@[simp] theorem pl65 : placesOf Try.prog 65 = some [(0, 1), (1, 1), (2, 1)] := by kernel_rfl
@[simp] theorem tsz66 : tsz? Try.prog 66 = some 4 := by kernel_rfl
@[simp] theorem ag66 : aggOf Try.prog 66 = some true := by kernel_rfl
@[simp] theorem tby66 : tby? Try.prog 66 = some 32 := by kernel_rfl
@[simp] theorem tz66 : tz? Try.prog 66 = some (.agg #[.int .i64 0, .int .i64 0, .int .i64 0, .int .i64 0]) := by kernel_rfl
@[simp] theorem el66 : elemT Try.prog 66 = none := by kernel_rfl
@[simp] theorem ar66 : arrOf Try.prog 66 = none := by kernel_rfl
@[simp] theorem fo66_0 : fieldOff Try.prog 66 0 = some 0 := by kernel_rfl
@[simp] theorem ft66_0 : fieldTO Try.prog 66 0 = some (65, 0) := by kernel_rfl
@[simp] theorem fo66_1 : fieldOff Try.prog 66 1 = some 3 := by kernel_rfl
@[simp] theorem ft66_1 : fieldTO Try.prog 66 1 = some (3, 3) := by kernel_rfl
@[simp] theorem pl66 : placesOf Try.prog 66 = some [(0, 3), (3, 1)] := by kernel_rfl
@[simp] theorem tsz67 : tsz? Try.prog 67 = some 4 := by kernel_rfl
@[simp] theorem ag67 : aggOf Try.prog 67 = some true := by kernel_rfl
@[simp] theorem tby67 : tby? Try.prog 67 = some 32 := by kernel_rfl
@[simp] theorem tz67 : tz? Try.prog 67 = some (.agg #[.int .i64 0, .int .i64 0, .int .i64 0, .int .i64 0]) := by kernel_rfl
@[simp] theorem el67 : elemT Try.prog 67 = none := by kernel_rfl
@[simp] theorem ar67 : arrOf Try.prog 67 = none := by kernel_rfl
@[simp] theorem fo67_0 : fieldOff Try.prog 67 0 = some 0 := by kernel_rfl
@[simp] theorem ft67_0 : fieldTO Try.prog 67 0 = some (65, 0) := by kernel_rfl
@[simp] theorem fo67_1 : fieldOff Try.prog 67 1 = some 3 := by kernel_rfl
@[simp] theorem ft67_1 : fieldTO Try.prog 67 1 = some (3, 3) := by kernel_rfl
@[simp] theorem pl67 : placesOf Try.prog 67 = some [(0, 3), (3, 1)] := by kernel_rfl
@[simp] theorem tsz68 : tsz? Try.prog 68 = some 18 := by kernel_rfl
@[simp] theorem ag68 : aggOf Try.prog 68 = some true := by kernel_rfl
@[simp] theorem tby68 : tby? Try.prog 68 = some 208 := by kernel_rfl
@[simp] theorem tz68 : tz? Try.prog 68 = some (.agg #[.string ⟨#[]⟩, .int .i64 0, .int .i64 0, .string ⟨#[]⟩, .string ⟨#[]⟩, .int .i64 0, .slice none 0 0, .slice none 0 0, .string ⟨#[]⟩, .int .i64 0, .int .i64 0, .int .i64 0, .int .i64 0, .int .i64 0, .int .i64 0, .int .i64 0, .int .i64 0, .int .i64 0]) := by kernel_rfl
@[simp] theorem el68 : elemT Try.prog 68 = none := by kernel_rfl
@[simp] theorem ar68 : arrOf Try.prog 68 = none := by kernel_rfl
@[simp] theorem fo68_0 : fieldOff Try.prog 68 0 = some 0 := by kernel_rfl
@[simp] theorem ft68_0 : fieldTO Try.prog 68 0 = some (9, 0) := by kernel_rfl
@[simp] theorem fo68_1 : fieldOff Try.prog 68 1 = some 1 := by kernel_rfl
@[simp] theorem ft68_1 : fieldTO Try.prog 68 1 = some (3, 1) := by kernel_rfl
@[simp] theorem fo68_2 : fieldOff Try.prog 68 2 = some 2 := by kernel_rfl
@[simp] theorem ft68_2 : fieldTO Try.prog 68 2 = some (3, 2) := by kernel_rfl
@[simp] theorem fo68_3 : fieldOff Try.prog 68 3 = some 3 := by kernel_rfl
@[simp] theorem ft68_3 : fieldTO Try.prog 68 3 = some (9, 3) := by kernel_rfl
@[simp] theorem fo68_4 : fieldOff Try.prog 68 4 = some 4 := by kernel_rfl
@[simp] theorem ft68_4 : fieldTO Try.prog 68 4 = some (9, 4) := by kernel_rfl
@[simp] theorem fo68_5 : fieldOff Try.prog 68 5 = some 5 := by kernel_rfl
@[simp] theorem ft68_5 : fieldTO Try.prog 68 5 = some (3, 5) := by kernel_rfl
@[simp] theorem fo68_6 : fieldOff Try.prog 68 6 = some 6 := by kernel_rfl
@[simp] theorem ft68_6 : fieldTO Try.prog 68 6 = some (63, 6) := by kernel_rfl
@[simp] theorem fo68_7 : fieldOff Try.prog 68 7 = some 8 := by kernel_rfl
@[simp] theorem ft68_7 : fieldTO Try.prog 68 7 = some (9, 8) := by kernel_rfl
@[simp] theorem fo68_8 : fieldOff Try.prog 68 8 = some 9 := by kernel_rfl
@[simp] theorem ft68_8 : fieldTO Try.prog 68 8 = some (3, 9) := by kernel_rfl
@[simp] theorem fo68_9 : fieldOff Try.prog 68 9 = some 10 := by kernel_rfl
@[simp] theorem ft68_9 : fieldTO Try.prog 68 9 = some (3, 10) := by kernel_rfl
@[simp] theorem fo68_10 : fieldOff Try.prog 68 10 = some 11 := by kernel_rfl
@[simp] theorem ft68_10 : fieldTO Try.prog 68 10 = some (65, 11) := by kernel_rfl
@[simp] theorem fo68_11 : fieldOff Try.prog 68 11 = some 14 := by kernel_rfl
@[simp] theorem ft68_11 : fieldTO Try.prog 68 11 = some (67, 14) := by kernel_rfl
@[simp] theorem pl68 : placesOf Try.prog 68 = some [(0, 1), (1, 1), (2, 1), (3, 1), (4, 1), (5, 1), (6, 2), (8, 1), (9, 1), (10, 1), (11, 3), (14, 4)] := by kernel_rfl
@[simp] theorem tsz69 : tsz? Try.prog 69 = some 18 := by kernel_rfl
@[simp] theorem ag69 : aggOf Try.prog 69 = some true := by kernel_rfl
@[simp] theorem tby69 : tby? Try.prog 69 = some 208 := by kernel_rfl
@[simp] theorem tz69 : tz? Try.prog 69 = some (.agg #[.string ⟨#[]⟩, .int .i64 0, .int .i64 0, .string ⟨#[]⟩, .string ⟨#[]⟩, .int .i64 0, .slice none 0 0, .slice none 0 0, .string ⟨#[]⟩, .int .i64 0, .int .i64 0, .int .i64 0, .int .i64 0, .int .i64 0, .int .i64 0, .int .i64 0, .int .i64 0, .int .i64 0]) := by kernel_rfl
@[simp] theorem el69 : elemT Try.prog 69 = none := by kernel_rfl
@[simp] theorem ar69 : arrOf Try.prog 69 = none := by kernel_rfl
@[simp] theorem fo69_0 : fieldOff Try.prog 69 0 = some 0 := by kernel_rfl
@[simp] theorem ft69_0 : fieldTO Try.prog 69 0 = some (9, 0) := by kernel_rfl
@[simp] theorem fo69_1 : fieldOff Try.prog 69 1 = some 1 := by kernel_rfl
@[simp] theorem ft69_1 : fieldTO Try.prog 69 1 = some (3, 1) := by kernel_rfl
@[simp] theorem fo69_2 : fieldOff Try.prog 69 2 = some 2 := by kernel_rfl
@[simp] theorem ft69_2 : fieldTO Try.prog 69 2 = some (3, 2) := by kernel_rfl
@[simp] theorem fo69_3 : fieldOff Try.prog 69 3 = some 3 := by kernel_rfl
@[simp] theorem ft69_3 : fieldTO Try.prog 69 3 = some (9, 3) := by kernel_rfl
@[simp] theorem fo69_4 : fieldOff Try.prog 69 4 = some 4 := by kernel_rfl
@[simp] theorem ft69_4 : fieldTO Try.prog 69 4 = some (9, 4) := by kernel_rfl
@[simp] theorem fo69_5 : fieldOff Try.prog 69 5 = some 5 := by kernel_rfl
@[simp] theorem ft69_5 : fieldTO Try.prog 69 5 = some (3, 5) := by kernel_rfl
@[simp] theorem fo69_6 : fieldOff Try.prog 69 6 = some 6 := by kernel_rfl
@[simp] theorem ft69_6 : fieldTO Try.prog 69 6 = some (63, 6) := by kernel_rfl
@[simp] theorem fo69_7 : fieldOff Try.prog 69 7 = some 8 := by kernel_rfl
@[simp] theorem ft69_7 : fieldTO Try.prog 69 7 = some (9, 8) := by kernel_rfl
@[simp] theorem fo69_8 : fieldOff Try.prog 69 8 = some 9 := by kernel_rfl
@[simp] theorem ft69_8 : fieldTO Try.prog 69 8 = some (3, 9) := by kernel_rfl
@[simp] theorem fo69_9 : fieldOff Try.prog 69 9 = some 10 := by kernel_rfl
@[simp] theorem ft69_9 : fieldTO Try.prog 69 9 = some (3, 10) := by kernel_rfl
@[simp] theorem fo69_10 : fieldOff Try.prog 69 10 = some 11 := by kernel_rfl
@[simp] theorem ft69_10 : fieldTO Try.prog 69 10 = some (65, 11) := by kernel_rfl
@[simp] theorem fo69_11 : fieldOff Try.prog 69 11 = some 14 := by kernel_rfl
@[simp] theorem ft69_11 : fieldTO Try.prog 69 11 = some (67, 14) := by kernel_rfl
@[simp] theorem pl69 : placesOf Try.prog 69 = some [(0, 1), (1, 1), (2, 1), (3, 1), (4, 1), (5, 1), (6, 2), (8, 1), (9, 1), (10, 1), (11, 3), (14, 4)] := by kernel_rfl
@[simp] theorem tsz70 : tsz? Try.prog 70 = some 1 := by kernel_rfl
@[simp] theorem ag70 : aggOf Try.prog 70 = some false := by kernel_rfl
@[simp] theorem tby70 : tby? Try.prog 70 = some 8 := by kernel_rfl
@[simp] theorem tz70 : tz? Try.prog 70 = some (.nilFunc) := by kernel_rfl
@[simp] theorem el70 : elemT Try.prog 70 = none := by kernel_rfl
@[simp] theorem ar70 : arrOf Try.prog 70 = none := by kernel_rfl
@[simp] theorem tsz71 : tsz? Try.prog 71 = some 1 := by kernel_rfl
@[simp] theorem ag71 : aggOf Try.prog 71 = some false := by kernel_rfl
@[simp] theorem tby71 : tby? Try.prog 71 = some 8 := by kernel_rfl
@[simp] theorem tz71 : tz? Try.prog 71 = some (.nilFunc) := by kernel_rfl
@[simp] theorem el71 : elemT Try.prog 71 = none := by kernel_rfl
@[simp] theorem ar71 : arrOf Try.prog 71 = none := by kernel_rfl
@[simp] theorem tsz72 : tsz? Try.prog 72 = some 1 := by kernel_rfl
@[simp] theorem ag72 : aggOf Try.prog 72 = some false := by kernel_rfl
@[simp] theorem tby72 : tby? Try.prog 72 = some 16 := by kernel_rfl
@[simp] theorem tz72 : tz? Try.prog 72 = some (.string ⟨#[]⟩) := by kernel_rfl
@[simp] theorem el72 : elemT Try.prog 72 = none := by kernel_rfl
@[simp] theorem ar72 : arrOf Try.prog 72 = none := by kernel_rfl
@[simp] theorem un72 : Try.prog.underlying 72 = some .string := by kernel_rfl
@[simp] theorem tsz73 : tsz? Try.prog 73 = some 1 := by kernel_rfl
@[simp] theorem ag73 : aggOf Try.prog 73 = some false := by kernel_rfl
@[simp] theorem tby73 : tby? Try.prog 73 = some 8 := by kernel_rfl
@[simp] theorem tz73 : tz? Try.prog 73 = some (.nilFunc) := by kernel_rfl
@[simp] theorem el73 : elemT Try.prog 73 = none := by kernel_rfl
@[simp] theorem ar73 : arrOf Try.prog 73 = none := by kernel_rfl
@[simp] theorem tsz74 : tsz? Try.prog 74 = some 1 := by kernel_rfl
@[simp] theorem ag74 : aggOf Try.prog 74 = some false := by kernel_rfl
@[simp] theorem tby74 : tby? Try.prog 74 = some 8 := by kernel_rfl
@[simp] theorem tz74 : tz? Try.prog 74 = some (.nilFunc) := by kernel_rfl
@[simp] theorem el74 : elemT Try.prog 74 = none := by kernel_rfl
@[simp] theorem ar74 : arrOf Try.prog 74 = none := by kernel_rfl
@[simp] theorem tsz75 : tsz? Try.prog 75 = some 1 := by kernel_rfl
@[simp] theorem ag75 : aggOf Try.prog 75 = some false := by kernel_rfl
@[simp] theorem tby75 : tby? Try.prog 75 = some 8 := by kernel_rfl
@[simp] theorem tz75 : tz? Try.prog 75 = some (.nilFunc) := by kernel_rfl
@[simp] theorem el75 : elemT Try.prog 75 = none := by kernel_rfl
@[simp] theorem ar75 : arrOf Try.prog 75 = none := by kernel_rfl
@[simp] theorem tsz76 : tsz? Try.prog 76 = some 1 := by kernel_rfl
@[simp] theorem ag76 : aggOf Try.prog 76 = some false := by kernel_rfl
@[simp] theorem tby76 : tby? Try.prog 76 = some 8 := by kernel_rfl
@[simp] theorem tz76 : tz? Try.prog 76 = some (.nilFunc) := by kernel_rfl
@[simp] theorem el76 : elemT Try.prog 76 = none := by kernel_rfl
@[simp] theorem ar76 : arrOf Try.prog 76 = none := by kernel_rfl
@[simp] theorem tsz77 : tsz? Try.prog 77 = some 1 := by kernel_rfl
@[simp] theorem ag77 : aggOf Try.prog 77 = some false := by kernel_rfl
@[simp] theorem tby77 : tby? Try.prog 77 = some 8 := by kernel_rfl
@[simp] theorem tz77 : tz? Try.prog 77 = some (.nilFunc) := by kernel_rfl
@[simp] theorem el77 : elemT Try.prog 77 = none := by kernel_rfl
@[simp] theorem ar77 : arrOf Try.prog 77 = none := by kernel_rfl
@[simp] theorem tsz78 : tsz? Try.prog 78 = some 1 := by kernel_rfl
@[simp] theorem ag78 : aggOf Try.prog 78 = some false := by kernel_rfl
@[simp] theorem tby78 : tby? Try.prog 78 = some 8 := by kernel_rfl
@[simp] theorem tz78 : tz? Try.prog 78 = some (.nilFunc) := by kernel_rfl
@[simp] theorem el78 : elemT Try.prog 78 = none := by kernel_rfl
@[simp] theorem ar78 : arrOf Try.prog 78 = none := by kernel_rfl
@[simp] theorem tsz80 : tsz? Try.prog 80 = some 1 := by kernel_rfl
@[simp] theorem ag80 : aggOf Try.prog 80 = some false := by kernel_rfl
@[simp] theorem tby80 : tby? Try.prog 80 = some 8 := by kernel_rfl
@[simp] theorem tz80 : tz? Try.prog 80 = some (.nilFunc) := by kernel_rfl
@[simp] theorem el80 : elemT Try.prog 80 = none := by kernel_rfl
@[simp] theorem ar80 : arrOf Try.prog 80 = none := by kernel_rfl
@[simp] theorem tsz82 : tsz? Try.prog 82 = some 1 := by kernel_rfl
@[simp] theorem ag82 : aggOf Try.prog 82 = some false := by kernel_rfl
@[simp] theorem tby82 : tby? Try.prog 82 = some 8 := by kernel_rfl
@[simp] theorem tz82 : tz? Try.prog 82 = some (.nilFunc) := by kernel_rfl
@[simp] theorem el82 : elemT Try.prog 82 = none := by kernel_rfl
@[simp] theorem ar82 : arrOf Try.prog 82 = none := by kernel_rfl
@[simp] theorem tsz83 : tsz? Try.prog 83 = some 2 := by kernel_rfl
@[simp] theorem ag83 : aggOf Try.prog 83 = some true := by kernel_rfl
@[simp] theorem tby83 : tby? Try.prog 83 = some 32 := by kernel_rfl
@[simp] theorem tz83 : tz? Try.prog 83 = some (.agg #[.string ⟨#[]⟩, .string ⟨#[]⟩]) := by kernel_rfl
@[simp] theorem el83 : elemT Try.prog 83 = none := by kernel_rfl
@[simp] theorem ar83 : arrOf Try.prog 83 = some (2, 9) := by kernel_rfl
@[simp] theorem un83 : Try.prog.underlying 83 = some (.array 2 9) := by kernel_rfl
@[simp] theorem pl83 : placesOf Try.prog 83 = some [(0, 1), (1, 1)] := by kernel_rfl
@[simp] theorem tsz85 : tsz? Try.prog 85 = some 1 := by kernel_rfl
@[simp] theorem ag85 : aggOf Try.prog 85 = some false := by kernel_rfl
@[simp] theorem tby85 : tby? Try.prog 85 = some 8 := by kernel_rfl
@[simp] theorem tz85 : tz? Try.prog 85 = some (.nilFunc) := by kernel_rfl
@[simp] theorem el85 : elemT Try.prog 85 = none := by kernel_rfl
@[simp] theorem ar85 : arrOf Try.prog 85 = none := by kernel_rfl
@[simp] theorem tsz86 : tsz? Try.prog 86 = some 1 := by kernel_rfl
@[simp] theorem ag86 : aggOf Try.prog 86 = some false := by kernel_rfl
@[simp] theorem tby86 : tby? Try.prog 86 = some 8 := by kernel_rfl
@[simp] theorem tz86 : tz? Try.prog 86 = some (.nilFunc) := by kernel_rfl
@[simp] theorem el86 : elemT Try.prog 86 = none := by kernel_rfl
@[simp] theorem ar86 : arrOf Try.prog 86 = none := by kernel_rfl
@[simp] theorem tsz87 : tsz? Try.prog 87 = some 1 := by kernel_rfl
@[simp] theorem ag87 : aggOf Try.prog 87 = some false := by kernel_rfl
@[simp] theorem tby87 : tby? Try.prog 87 = some 8 := by kernel_rfl
@[simp] theorem tz87 : tz? Try.prog 87 = some (.nilFunc) := by kernel_rfl
@[simp] theorem el87 : elemT Try.prog 87 = none := by kernel_rfl
@[simp] theorem ar87 : arrOf Try.prog 87 = none := by kernel_rfl
@[simp] theorem tsz88 : tsz? Try.prog 88 = some 1 := by kernel_rfl
@[simp] theorem ag88 : aggOf Try.prog 88 = some false := by kernel_rfl
@[simp] theorem tby88 : tby? Try.prog 88 = some 8 := by kernel_rfl
@[simp] theorem tz88 : tz? Try.prog 88 = some (.nilFunc) := by kernel_rfl
@[simp] theorem el88 : elemT Try.prog 88 = none := by kernel_rfl
@[simp] theorem ar88 : arrOf Try.prog 88 = none := by kernel_rfl
@[simp] theorem tsz89 : tsz? Try.prog 89 = some 1 := by kernel_rfl
@[simp] theorem ag89 : aggOf Try.prog 89 = some false := by kernel_rfl
@[simp] theorem tby89 : tby? Try.prog 89 = some 8 := by kernel_rfl
@[simp] theorem tz89 : tz? Try.prog 89 = some (.nilFunc) := by kernel_rfl
@[simp] theorem el89 : elemT Try.prog 89 = none := by kernel_rfl
@[simp] theorem ar89 : arrOf Try.prog 89 = none := by kernel_rfl
@[simp] theorem tsz90 : tsz? Try.prog 90 = some 2 := by kernel_rfl
@[simp] theorem ag90 : aggOf Try.prog 90 = some true := by kernel_rfl
@[simp] theorem tby90 : tby? Try.prog 90 = some 16 := by kernel_rfl
@[simp] theorem tz90 : tz? Try.prog 90 = some (.agg #[.int .i64 0, .int .i64 0]) := by kernel_rfl
@[simp] theorem el90 : elemT Try.prog 90 = none := by kernel_rfl
@[simp] theorem ar90 : arrOf Try.prog 90 = none := by kernel_rfl
@[simp] theorem fo90_0 : fieldOff Try.prog 90 0 = some 0 := by kernel_rfl
@[simp] theorem ft90_0 : fieldTO Try.prog 90 0 = some (3, 0) := by kernel_rfl
@[simp] theorem fo90_1 : fieldOff Try.prog 90 1 = some 1 := by kernel_rfl
@[simp] theorem ft90_1 : fieldTO Try.prog 90 1 = some (3, 1) := by kernel_rfl
@[simp] theorem pl90 : placesOf Try.prog 90 = some [(0, 1), (1, 1)] := by kernel_rfl
@[simp] theorem tsz91 : tsz? Try.prog 91 = some 2 := by kernel_rfl
@[simp] theorem ag91 : aggOf Try.prog 91 = some true := by kernel_rfl
@[simp] theorem tby91 : tby? Try.prog 91 = some 16 := by kernel_rfl
@[simp] theorem tz91 : tz? Try.prog 91 = some (.agg #[.int .i64 0, .int .i64 0]) := by kernel_rfl
@[simp] theorem el91 : elemT Try.prog 91 = none := by kernel_rfl
@[simp] theorem ar91 : arrOf Try.prog 91 = none := by kernel_rfl
@[simp] theorem fo91_0 : fieldOff Try.prog 91 0 = some 0 := by kernel_rfl
@[simp] theorem ft91_0 : fieldTO Try.prog 91 0 = some (3, 0) := by kernel_rfl
@[simp] theorem fo91_1 : fieldOff Try.prog 91 1 = some 1 := by kernel_rfl
@[simp] theorem ft91_1 : fieldTO Try.prog 91 1 = some (3, 1) := by kernel_rfl
@[simp] theorem pl91 : placesOf Try.prog 91 = some [(0, 1), (1, 1)] := by kernel_rfl
@[simp] theorem tsz92 : tsz? Try.prog 92 = some 1 := by kernel_rfl
@[simp] theorem ag92 : aggOf Try.prog 92 = some false := by kernel_rfl
@[simp] theorem tby92 : tby? Try.prog 92 = some 8 := by kernel_rfl
@[simp] theorem tz92 : tz? Try.prog 92 = some (.nilFunc) := by kernel_rfl
@[simp] theorem el92 : elemT Try.prog 92 = none := by kernel_rfl
@[simp] theorem ar92 : arrOf Try.prog 92 = none := by kernel_rfl
@[simp] theorem tsz93 : tsz? Try.prog 93 = some 1 := by kernel_rfl
@[simp] theorem ag93 : aggOf Try.prog 93 = some false := by kernel_rfl
@[simp] theorem tby93 : tby? Try.prog 93 = some 8 := by kernel_rfl
@[simp] theorem tz93 : tz? Try.prog 93 = some (.nilFunc) := by kernel_rfl
@[simp] theorem el93 : elemT Try.prog 93 = none := by kernel_rfl
@[simp] theorem ar93 : arrOf Try.prog 93 = none := by kernel_rfl
@[simp] theorem tsz94 : tsz? Try.prog 94 = some 4 := by kernel_rfl
@[simp] theorem ag94 : aggOf Try.prog 94 = some true := by kernel_rfl
@[simp] theorem tby94 : tby? Try.prog 94 = some 40 := by kernel_rfl
@[simp] theorem tz94 : tz? Try.prog 94 = some (.agg #[.string ⟨#[]⟩, .int .i64 0, .int .i64 0, .int .i64 0]) := by kernel_rfl
@[simp] theorem el94 : elemT Try.prog 94 = none := by kernel_rfl
@[simp] theorem ar94 : arrOf Try.prog 94 = none := by kernel_rfl
@[simp] theorem fo94_0 : fieldOff Try.prog 94 0 = some 0 := by kernel_rfl
@[simp] theorem ft94_0 : fieldTO Try.prog 94 0 = some (9, 0) := by kernel_rfl
@[simp] theorem fo94_1 : fieldOff Try.prog 94 1 = some 1 := by kernel_rfl
@[simp] theorem ft94_1 : fieldTO Try.prog 94 1 = some (3, 1) := by kernel_rfl
@[simp] theorem fo94_2 : fieldOff Try.prog 94 2 = some 2 := by kernel_rfl
@[simp] theorem ft94_2 : fieldTO Try.prog 94 2 = some (3, 2) := by kernel_rfl
@[simp] theorem fo94_3 : fieldOff Try.prog 94 3 = some 3 := by kernel_rfl
@[simp] theorem ft94_3 : fieldTO Try.prog 94 3 = some (3, 3) := by kernel_rfl
@[simp] theorem pl94 : placesOf Try.prog 94 = some [(0, 1), (1, 1), (2, 1), (3, 1)] := by kernel_rfl
@[simp] theorem tsz95 : tsz? Try.prog 95 = some 4 := by kernel_rfl
@[simp] theorem ag95 : aggOf Try.prog 95 = some true := by kernel_rfl
@[simp] theorem tby95 : tby? Try.prog 95 = some 40 := by kernel_rfl
@[simp] theorem tz95 : tz? Try.prog 95 = some (.agg #[.string ⟨#[]⟩, .int .i64 0, .int .i64 0, .int .i64 0]) := by kernel_rfl
@[simp] theorem el95 : elemT Try.prog 95 = none := by kernel_rfl
@[simp] theorem ar95 : arrOf Try.prog 95 = none := by kernel_rfl
@[simp] theorem fo95_0 : fieldOff Try.prog 95 0 = some 0 := by kernel_rfl
@[simp] theorem ft95_0 : fieldTO Try.prog 95 0 = some (9, 0) := by kernel_rfl
@[simp] theorem fo95_1 : fieldOff Try.prog 95 1 = some 1 := by kernel_rfl
@[simp] theorem ft95_1 : fieldTO Try.prog 95 1 = some (3, 1) := by kernel_rfl
@[simp] theorem fo95_2 : fieldOff Try.prog 95 2 = some 2 := by kernel_rfl
@[simp] theorem ft95_2 : fieldTO Try.prog 95 2 = some (3, 2) := by kernel_rfl
@[simp] theorem fo95_3 : fieldOff Try.prog 95 3 = some 3 := by kernel_rfl
@[simp] theorem ft95_3 : fieldTO Try.prog 95 3 = some (3, 3) := by kernel_rfl
@[simp] theorem pl95 : placesOf Try.prog 95 = some [(0, 1), (1, 1), (2, 1), (3, 1)] := by kernel_rfl
@[simp] theorem tsz97 : tsz? Try.prog 97 = some 1 := by kernel_rfl
@[simp] theorem ag97 : aggOf Try.prog 97 = some false := by kernel_rfl
@[simp] theorem tby97 : tby? Try.prog 97 = some 8 := by kernel_rfl
@[simp] theorem tz97 : tz? Try.prog 97 = some (.nilFunc) := by kernel_rfl
@[simp] theorem el97 : elemT Try.prog 97 = none := by kernel_rfl
@[simp] theorem ar97 : arrOf Try.prog 97 = none := by kernel_rfl
@[simp] theorem tsz98 : tsz? Try.prog 98 = some 1 := by kernel_rfl
@[simp] theorem ag98 : aggOf Try.prog 98 = some false := by kernel_rfl
@[simp] theorem tby98 : tby? Try.prog 98 = some 8 := by kernel_rfl
@[simp] theorem tz98 : tz? Try.prog 98 = some (.nilFunc) := by kernel_rfl
@[simp] theorem el98 : elemT Try.prog 98 = none := by kernel_rfl
@[simp] theorem ar98 : arrOf Try.prog 98 = none := by kernel_rfl
@[simp] theorem tsz99 : tsz? Try.prog 99 = some 1 := by kernel_rfl
@[simp] theorem ag99 : aggOf Try.prog 99 = some false := by kernel_rfl
@[simp] theorem tby99 : tby? Try.prog 99 = some 8 := by kernel_rfl
@[simp] theorem tz99 : tz? Try.prog 99 = some (.nilFunc) := by kernel_rfl
@[simp] theorem el99 : elemT Try.prog 99 = none := by kernel_rfl
@[simp] theorem ar99 : arrOf Try.prog 99 = none := by kernel_rfl
@[simp] theorem tsz100 : tsz? Try.prog 100 = some 1 := by kernel_rfl
@[simp] theorem ag100 : aggOf Try.prog 100 = some false := by kernel_rfl
@[simp] theorem tby100 : tby? Try.prog 100 = some 8 := by kernel_rfl
@[simp] theorem tz100 : tz? Try.prog 100 = some (.nilFunc) := by kernel_rfl
@[simp] theorem el100 : elemT Try.prog 100 = none := by kernel_rfl
@[simp] theorem ar100 : arrOf Try.prog 100 = none := by kernel_rfl
@[simp] theorem tsz101 : tsz? Try.prog 101 = some 4 := by kernel_rfl
@[simp] theorem ag101 : aggOf Try.prog 101 = some true := by kernel_rfl
@[simp] theorem tby101 : tby? Try.prog 101 = some 40 := by kernel_rfl
@[simp] theorem tz101 : tz? Try.prog 101 = some (.agg #[.pointer none, .pointer none, .pointer none, .string ⟨#[]⟩]) := by kernel_rfl
@[simp] theorem el101 : elemT Try.prog 101 = none := by kernel_rfl
@[simp] theorem ar101 : arrOf Try.prog 101 = none := by kernel_rfl
@[simp] theorem fo101_0 : fieldOff Try.prog 101 0 = some 0 := by kernel_rfl
@[simp] theorem ft101_0 : fieldTO Try.prog 101 0 = some (17, 0) := by kernel_rfl
@[simp] theorem fo101_1 : fieldOff Try.prog 101 1 = some 1 := by kernel_rfl
@[simp] theorem ft101_1 : fieldTO Try.prog 101 1 = some (17, 1) := by kernel_rfl
@[simp] theorem fo101_2 : fieldOff Try.prog 101 2 = some 2 := by kernel_rfl
@[simp] theorem ft101_2 : fieldTO Try.prog 101 2 = some (17, 2) := by kernel_rfl
@[simp] theorem fo101_3 : fieldOff Try.prog 101 3 = some 3 := by kernel_rfl
@[simp] theorem ft101_3 : fieldTO Try.prog 101 3 = some (9, 3) := by kernel_rfl
@[simp] theorem pl101 : placesOf Try.prog 101 = some [(0, 1), (1, 1), (2, 1), (3, 1)] := by kernel_rfl
@[simp] theorem tsz102 : tsz? Try.prog 102 = some 4 := by kernel_rfl
@[simp] theorem ag102 : aggOf Try.prog 102 = some true := by kernel_rfl
@[simp] theorem tby102 : tby? Try.prog 102 = some 40 := by kernel_rfl
@[simp] theorem tz102 : tz? Try.prog 102 = some (.agg #[.pointer none, .pointer none, .pointer none, .string ⟨#[]⟩]) := by kernel_rfl
@[simp] theorem el102 : elemT Try.prog 102 = none := by kernel_rfl
@[simp] theorem ar102 : arrOf Try.prog 102 = none := by kernel_rfl
@[simp] theorem fo102_0 : fieldOff Try.prog 102 0 = some 0 := by kernel_rfl
@[simp] theorem ft102_0 : fieldTO Try.prog 102 0 = some (17, 0) := by kernel_rfl
@[simp] theorem fo102_1 : fieldOff Try.prog 102 1 = some 1 := by kernel_rfl
@[simp] theorem ft102_1 : fieldTO Try.prog 102 1 = some (17, 1) := by kernel_rfl
@[simp] theorem fo102_2 : fieldOff Try.prog 102 2 = some 2 := by kernel_rfl
@[simp] theorem ft102_2 : fieldTO Try.prog 102 2 = some (17, 2) := by kernel_rfl
@[simp] theorem fo102_3 : fieldOff Try.prog 102 3 = some 3 := by kernel_rfl
@[simp] theorem ft102_3 : fieldTO Try.prog 102 3 = some (9, 3) := by kernel_rfl
@[simp] theorem pl102 : placesOf Try.prog 102 = some [(0, 1), (1, 1), (2, 1), (3, 1)] := by kernel_rfl
@[simp] theorem tsz103 : tsz? Try.prog 103 = some 0 := by kernel_rfl
@[simp] theorem ag103 : aggOf Try.prog 103 = some true := by kernel_rfl
@[simp] theorem tby103 : tby? Try.prog 103 = some 0 := by kernel_rfl
@[simp] theorem tz103 : tz? Try.prog 103 = some (.agg #[]) := by kernel_rfl
@[simp] theorem el103 : elemT Try.prog 103 = none := by kernel_rfl
@[simp] theorem ar103 : arrOf Try.prog 103 = some (0, 16) := by kernel_rfl
@[simp] theorem un103 : Try.prog.underlying 103 = some (.array 0 16) := by kernel_rfl
@[simp] theorem pl103 : placesOf Try.prog 103 = some [] := by kernel_rfl
@[simp] theorem tsz104 : tsz? Try.prog 104 = some 0 := by kernel_rfl
@[simp] theorem ag104 : aggOf Try.prog 104 = some true := by kernel_rfl
@[simp] theorem tby104 : tby? Try.prog 104 = some 0 := by kernel_rfl
@[simp] theorem tz104 : tz? Try.prog 104 = some (.agg #[]) := by kernel_rfl
@[simp] theorem el104 : elemT Try.prog 104 = none := by kernel_rfl
@[simp] theorem ar104 : arrOf Try.prog 104 = none := by kernel_rfl
@[simp] theorem ft104_0 : fieldTO Try.prog 104 0 = some (103, 0) := by kernel_rfl
@[simp] theorem pl104 : placesOf Try.prog 104 = some [(0, 0)] := by kernel_rfl
@[simp] theorem tsz105 : tsz? Try.prog 105 = some 0 := by kernel_rfl
@[simp] theorem ag105 : aggOf Try.prog 105 = some true := by kernel_rfl
@[simp] theorem tby105 : tby? Try.prog 105 = some 0 := by kernel_rfl
@[simp] theorem tz105 : tz? Try.prog 105 = some (.agg #[]) := by kernel_rfl
@[simp] theorem el105 : elemT Try.prog 105 = none := by kernel_rfl
@[simp] theorem ar105 : arrOf Try.prog 105 = none := by kernel_rfl
@[simp] theorem ft105_0 : fieldTO Try.prog 105 0 = some (103, 0) := by kernel_rfl
@[simp] theorem pl105 : placesOf Try.prog 105 = some [(0, 0)] := by kernel_rfl
@[simp] theorem tsz106 : tsz? Try.prog 106 = some 1 := by kernel_rfl
@[simp] theorem ag106 : aggOf Try.prog 106 = some false := by kernel_rfl
@[simp] theorem tby106 : tby? Try.prog 106 = some 8 := by kernel_rfl
@[simp] theorem tz106 : tz? Try.prog 106 = some (.nilFunc) := by kernel_rfl
@[simp] theorem el106 : elemT Try.prog 106 = none := by kernel_rfl
@[simp] theorem ar106 : arrOf Try.prog 106 = none := by kernel_rfl
@[simp] theorem tsz107 : tsz? Try.prog 107 = some 1 := by kernel_rfl
@[simp] theorem ag107 : aggOf Try.prog 107 = some false := by kernel_rfl
@[simp] theorem tby107 : tby? Try.prog 107 = some 4 := by kernel_rfl
@[simp] theorem tz107 : tz? Try.prog 107 = some (.int .u32 0) := by kernel_rfl
@[simp] theorem el107 : elemT Try.prog 107 = none := by kernel_rfl
@[simp] theorem ar107 : arrOf Try.prog 107 = none := by kernel_rfl
@[simp] theorem un107 : Try.prog.underlying 107 = some (.int .u32) := by kernel_rfl
@[simp] theorem tsz108 : tsz? Try.prog 108 = some 1 := by kernel_rfl
@[simp] theorem ag108 : aggOf Try.prog 108 = some false := by kernel_rfl
@[simp] theorem tby108 : tby? Try.prog 108 = some 1 := by kernel_rfl
@[simp] theorem tz108 : tz? Try.prog 108 = some (.int .u8 0) := by kernel_rfl
@[simp] theorem el108 : elemT Try.prog 108 = none := by kernel_rfl
@[simp] theorem ar108 : arrOf Try.prog 108 = none := by kernel_rfl
@[simp] theorem un108 : Try.prog.underlying 108 = some (.int .u8) := by kernel_rfl
@[simp] theorem tsz109 : tsz? Try.prog 109 = some 1 := by kernel_rfl
@[simp] theorem ag109 : aggOf Try.prog 109 = some false := by kernel_rfl
@[simp] theorem tby109 : tby? Try.prog 109 = some 1 := by kernel_rfl
@[simp] theorem tz109 : tz? Try.prog 109 = some (.int .u8 0) := by kernel_rfl
@[simp] theorem el109 : elemT Try.prog 109 = none := by kernel_rfl
@[simp] theorem ar109 : arrOf Try.prog 109 = none := by kernel_rfl
@[simp] theorem un109 : Try.prog.underlying 109 = some (.int .u8) := by kernel_rfl
@[simp] theorem tsz110 : tsz? Try.prog 110 = some 1 := by kernel_rfl
@[simp] theorem ag110 : aggOf Try.prog 110 = some false := by kernel_rfl
@[simp] theorem tby110 : tby? Try.prog 110 = some 8 := by kernel_rfl
@[simp] theorem tz110 : tz? Try.prog 110 = some (.nilFunc) := by kernel_rfl
@[simp] theorem el110 : elemT Try.prog 110 = none := by kernel_rfl
@[simp] theorem ar110 : arrOf Try.prog 110 = none := by kernel_rfl
@[simp] theorem tsz111 : tsz? Try.prog 111 = some 1 := by kernel_rfl
@[simp] theorem ag111 : aggOf Try.prog 111 = some false := by kernel_rfl
@[simp] theorem tby111 : tby? Try.prog 111 = some 8 := by kernel_rfl
@[simp] theorem tz111 : tz? Try.prog 111 = some (.pointer none) := by kernel_rfl
@[simp] theorem el111 : elemT Try.prog 111 = none := by kernel_rfl
@[simp] theorem ar111 : arrOf Try.prog 111 = none := by kernel_rfl
@[simp] theorem tsz112 : tsz? Try.prog 112 = some 1 := by kernel_rfl
@[simp] theorem ag112 : aggOf Try.prog 112 = some false := by kernel_rfl
@[simp] theorem tby112 : tby? Try.prog 112 = some 4 := by kernel_rfl
@[simp] theorem tz112 : tz? Try.prog 112 = some (.int .i32 0) := by kernel_rfl
@[simp] theorem el112 : elemT Try.prog 112 = none := by kernel_rfl
@[simp] theorem ar112 : arrOf Try.prog 112 = none := by kernel_rfl
@[simp] theorem un112 : Try.prog.underlying 112 = some (.int .i32) := by kernel_rfl
@[simp] theorem tsz113 : tsz? Try.prog 113 = some 1 := by kernel_rfl
@[simp] theorem ag113 : aggOf Try.prog 113 = some false := by kernel_rfl
@[simp] theorem tby113 : tby? Try.prog 113 = some 4 := by kernel_rfl
@[simp] theorem tz113 : tz? Try.prog 113 = some (.int .i32 0) := by kernel_rfl
@[simp] theorem el113 : elemT Try.prog 113 = none := by kernel_rfl
@[simp] theorem ar113 : arrOf Try.prog 113 = none := by kernel_rfl
@[simp] theorem un113 : Try.prog.underlying 113 = some (.int .i32) := by kernel_rfl
@[simp] theorem tsz114 : tsz? Try.prog 114 = some 11 := by kernel_rfl
@[simp] theorem ag114 : aggOf Try.prog 114 = some true := by kernel_rfl
@[simp] theorem tby114 : tby? Try.prog 114 = some 48 := by kernel_rfl
@[simp] theorem tz114 : tz? Try.prog 114 = some (.agg #[.int .u64 0, .int .u64 0, .int .u32 0, .int .u8 0, .int .u8 0, .int .u8 0, .int .u8 0, .nilFunc, .pointer none, .int .i32 0, .int .i32 0]) := by kernel_rfl
@[simp] theorem el114 : elemT Try.prog 114 = none := by kernel_rfl
@[simp] theorem ar114 : arrOf Try.prog 114 = none := by kernel_rfl
@[simp] theorem fo114_0 : fieldOff Try.prog 114 0 = some 0 := by kernel_rfl
@[simp] theorem ft114_0 : fieldTO Try.prog 114 0 = some (12, 0) := by kernel_rfl
@[simp] theorem fo114_1 : fieldOff Try.prog 114 1 = some 1 := by kernel_rfl
@[simp] theorem ft114_1 : fieldTO Try.prog 114 1 = some (12, 1) := by kernel_rfl
@[simp] theorem fo114_2 : fieldOff Try.prog 114 2 = some 2 := by kernel_rfl
@[simp] theorem ft114_2 : fieldTO Try.prog 114 2 = some (107, 2) := by kernel_rfl
@[simp] theorem fo114_3 : fieldOff Try.prog 114 3 = some 3 := by kernel_rfl
@[simp] theorem ft114_3 : fieldTO Try.prog 114 3 = some (108, 3) := by kernel_rfl
@[simp] theorem fo114_4 : fieldOff Try.prog 114 4 = some 4 := by kernel_rfl
@[simp] theorem ft114_4 : fieldTO Try.prog 114 4 = some (5, 4) := by kernel_rfl
@[simp] theorem fo114_5 : fieldOff Try.prog 114 5 = some 5 := by kernel_rfl
@[simp] theorem ft114_5 : fieldTO Try.prog 114 5 = some (5, 5) := by kernel_rfl
@[simp] theorem fo114_6 : fieldOff Try.prog 114 6 = some 6 := by kernel_rfl
@[simp] theorem ft114_6 : fieldTO Try.prog 114 6 = some (109, 6) := by kernel_rfl
@[simp] theorem fo114_7 : fieldOff Try.prog 114 7 = some 7 := by kernel_rfl
@[simp] theorem ft114_7 : fieldTO Try.prog 114 7 = some (110, 7) := by kernel_rfl
@[simp] theorem fo114_8 : fieldOff Try.prog 114 8 = some 8 := by kernel_rfl
@[simp] theorem ft114_8 : fieldTO Try.prog 114 8 = some (111, 8) := by kernel_rfl
@[simp] theorem fo114_9 : fieldOff Try.prog 114 9 = some 9 := by kernel_rfl
@[simp] theorem ft114_9 : fieldTO Try.prog 114 9 = some (112, 9) := by kernel_rfl
@[simp] theorem fo114_10 : fieldOff Try.prog 114 10 = some 10 := by kernel_rfl
@[simp] theorem ft114_10 : fieldTO Try.prog 114 10 = some (113, 10) := by kernel_rfl
@[simp] theorem pl114 : placesOf Try.prog 114 = some [(0, 1), (1, 1), (2, 1), (3, 1), (4, 1), (5, 1), (6, 1), (7, 1), (8, 1), (9, 1), (10, 1)] := by kernel_rfl
@[simp] theorem tsz115 : tsz? Try.prog 115 = some 11 := by kernel_rfl
@[simp] theorem ag115 : aggOf Try.prog 115 = some true := by kernel_rfl
@[simp] theorem tby115 : tby? Try.prog 115 = some 48 := by kernel_rfl
@[simp] theorem tz115 : tz? Try.prog 115 = some (.agg #[.int .u64 0, .int .u64 0, .int .u32 0, .int .u8 0, .int .u8 0, .int .u8 0, .int .u8 0, .nilFunc, .pointer none, .int .i32 0, .int .i32 0]) := by kernel_rfl
@[simp] theorem el115 : elemT Try.prog 115 = none := by kernel_rfl
@[simp] theorem ar115 : arrOf Try.prog 115 = none := by kernel_rfl
@[simp] theorem fo115_0 : fieldOff Try.prog 115 0 = some 0 := by kernel_rfl
@[simp] theorem ft115_0 : fieldTO Try.prog 115 0 = some (12, 0) := by kernel_rfl
@[simp] theorem fo115_1 : fieldOff Try.prog 115 1 = some 1 := by kernel_rfl
@[simp] theorem ft115_1 : fieldTO Try.prog 115 1 = some (12, 1) := by kernel_rfl
@[simp] theorem fo115_2 : fieldOff Try.prog 115 2 = some 2 := by kernel_rfl
@[simp] theorem ft115_2 : fieldTO Try.prog 115 2 = some (107, 2) := by kernel_rfl
@[simp] theorem fo115_3 : fieldOff Try.prog 115 3 = some 3 := by kernel_rfl
@[simp] theorem ft115_3 : fieldTO Try.prog 115 3 = some (108, 3) := by kernel_rfl
@[simp] theorem fo115_4 : fieldOff Try.prog 115 4 = some 4 := by kernel_rfl
@[simp] theorem ft115_4 : fieldTO Try.prog 115 4 = some (5, 4) := by kernel_rfl
@[simp] theorem fo115_5 : fieldOff Try.prog 115 5 = some 5 := by kernel_rfl
@[simp] theorem ft115_5 : fieldTO Try.prog 115 5 = some (5, 5) := by kernel_rfl
@[simp] theorem fo115_6 : fieldOff Try.prog 115 6 = some 6 := by kernel_rfl
@[simp] theorem ft115_6 : fieldTO Try.prog 115 6 = some (109, 6) := by kernel_rfl
@[simp] theorem fo115_7 : fieldOff Try.prog 115 7 = some 7 := by kernel_rfl
@[simp] theorem ft115_7 : fieldTO Try.prog 115 7 = some (110, 7) := by kernel_rfl
@[simp] theorem fo115_8 : fieldOff Try.prog 115 8 = some 8 := by kernel_rfl
@[simp] theorem ft115_8 : fieldTO Try.prog 115 8 = some (111, 8) := by kernel_rfl
@[simp] theorem fo115_9 : fieldOff Try.prog 115 9 = some 9 := by kernel_rfl
@[simp] theorem ft115_9 : fieldTO Try.prog 115 9 = some (112, 9) := by kernel_rfl
@[simp] theorem fo115_10 : fieldOff Try.prog 115 10 = some 10 := by kernel_rfl
@[simp] theorem ft115_10 : fieldTO Try.prog 115 10 = some (113, 10) := by kernel_rfl
@[simp] theorem pl115 : placesOf Try.prog 115 = some [(0, 1), (1, 1), (2, 1), (3, 1), (4, 1), (5, 1), (6, 1), (7, 1), (8, 1), (9, 1), (10, 1)] := by kernel_rfl
@[simp] theorem tsz116 : tsz? Try.prog 116 = some 3 := by kernel_rfl
@[simp] theorem ag116 : aggOf Try.prog 116 = some true := by kernel_rfl
@[simp] theorem tby116 : tby? Try.prog 116 = some 40 := by kernel_rfl
@[simp] theorem tz116 : tz? Try.prog 116 = some (.agg #[.string ⟨#[]⟩, .int .i64 0, .string ⟨#[]⟩]) := by kernel_rfl
@[simp] theorem el116 : elemT Try.prog 116 = none := by kernel_rfl
@[simp] theorem ar116 : arrOf Try.prog 116 = none := by kernel_rfl
@[simp] theorem fo116_0 : fieldOff Try.prog 116 0 = some 0 := by kernel_rfl
@[simp] theorem ft116_0 : fieldTO Try.prog 116 0 = some (9, 0) := by kernel_rfl
@[simp] theorem fo116_1 : fieldOff Try.prog 116 1 = some 1 := by kernel_rfl
@[simp] theorem ft116_1 : fieldTO Try.prog 116 1 = some (3, 1) := by kernel_rfl
@[simp] theorem fo116_2 : fieldOff Try.prog 116 2 = some 2 := by kernel_rfl
@[simp] theorem ft116_2 : fieldTO Try.prog 116 2 = some (9, 2) := by kernel_rfl
@[simp] theorem pl116 : placesOf Try.prog 116 = some [(0, 1), (1, 1), (2, 1)] := by kernel_rfl
@[simp] theorem tsz117 : tsz? Try.prog 117 = some 3 := by kernel_rfl
@[simp] theorem ag117 : aggOf Try.prog 117 = some true := by kernel_rfl
@[simp] theorem tby117 : tby? Try.prog 117 = some 40 := by kernel_rfl
@[simp] theorem tz117 : tz? Try.prog 117 = some (.agg #[.string ⟨#[]⟩, .int .i64 0, .string ⟨#[]⟩]) := by kernel_rfl
@[simp] theorem el117 : elemT Try.prog 117 = none := by kernel_rfl
@[simp] theorem ar117 : arrOf Try.prog 117 = none := by kernel_rfl
@[simp] theorem fo117_0 : fieldOff Try.prog 117 0 = some 0 := by kernel_rfl
@[simp] theorem ft117_0 : fieldTO Try.prog 117 0 = some (9, 0) := by kernel_rfl
@[simp] theorem fo117_1 : fieldOff Try.prog 117 1 = some 1 := by kernel_rfl
@[simp] theorem ft117_1 : fieldTO Try.prog 117 1 = some (3, 1) := by kernel_rfl
@[simp] theorem fo117_2 : fieldOff Try.prog 117 2 = some 2 := by kernel_rfl
@[simp] theorem ft117_2 : fieldTO Try.prog 117 2 = some (9, 2) := by kernel_rfl
@[simp] theorem pl117 : placesOf Try.prog 117 = some [(0, 1), (1, 1), (2, 1)] := by kernel_rfl
@[simp] theorem tsz118 : tsz? Try.prog 118 = some 5 := by kernel_rfl
@[simp] theorem ag118 : aggOf Try.prog 118 = some true := by kernel_rfl
@[simp] theorem tby118 : tby? Try.prog 118 = some 88 := by kernel_rfl
@[simp] theorem tz118 : tz? Try.prog 118 = some (.agg #[.string ⟨#[]⟩, .string ⟨#[]⟩, .slice none 0 0, .int .i64 0, .slice none 0 0]) := by kernel_rfl
@[simp] theorem el118 : elemT Try.prog 118 = none := by kernel_rfl
@[simp] theorem ar118 : arrOf Try.prog 118 = none := by kernel_rfl
@[simp] theorem fo118_0 : fieldOff Try.prog 118 0 = some 0 := by kernel_rfl
@[simp] theorem ft118_0 : fieldTO Try.prog 118 0 = some (9, 0) := by kernel_rfl
@[simp] theorem fo118_1 : fieldOff Try.prog 118 1 = some 1 := by kernel_rfl
@[simp] theorem ft118_1 : fieldTO Try.prog 118 1 = some (9, 1) := by kernel_rfl
@[simp] theorem fo118_2 : fieldOff Try.prog 118 2 = some 2 := by kernel_rfl
@[simp] theorem ft118_2 : fieldTO Try.prog 118 2 = some (25, 2) := by kernel_rfl
@[simp] theorem fo118_3 : fieldOff Try.prog 118 3 = some 3 := by kernel_rfl
@[simp] theorem ft118_3 : fieldTO Try.prog 118 3 = some (3, 3) := by kernel_rfl
@[simp] theorem fo118_4 : fieldOff Try.prog 118 4 = some 4 := by kernel_rfl
@[simp] theorem ft118_4 : fieldTO Try.prog 118 4 = some (25, 4) := by kernel_rfl
@[simp] theorem pl118 : placesOf Try.prog 118 = some [(0, 1), (1, 1), (2, 1), (3, 1), (4, 1)] := by kernel_rfl
@[simp] theorem tsz119 : tsz? Try.prog 119 = some 5 := by kernel_rfl
@[simp] theorem ag119 : aggOf Try.prog 119 = some true := by kernel_rfl
@[simp] theorem tby119 : tby? Try.prog 119 = some 88 := by kernel_rfl
@[simp] theorem tz119 : tz? Try.prog 119 = some (.agg #[.string ⟨#[]⟩, .string ⟨#[]⟩, .slice none 0 0, .int .i64 0, .slice none 0 0]) := by kernel_rfl
@[simp] theorem el119 : elemT Try.prog 119 = none := by kernel_rfl
@[simp] theorem ar119 : arrOf Try.prog 119 = none := by kernel_rfl
@[simp] theorem fo119_0 : fieldOff Try.prog 119 0 = some 0 := by kernel_rfl
@[simp] theorem ft119_0 : fieldTO Try.prog 119 0 = some (9, 0) := by kernel_rfl
@[simp] theorem fo119_1 : fieldOff Try.prog 119 1 = some 1 := by kernel_rfl
@[simp] theorem ft119_1 : fieldTO Try.prog 119 1 = some (9, 1) := by kernel_rfl
@[simp] theorem fo119_2 : fieldOff Try.prog 119 2 = some 2 := by kernel_rfl
@[simp] theorem ft119_2 : fieldTO Try.prog 119 2 = some (25, 2) := by kernel_rfl
@[simp] theorem fo119_3 : fieldOff Try.prog 119 3 = some 3 := by kernel_rfl
@[simp] theorem ft119_3 : fieldTO Try.prog 119 3 = some (3, 3) := by kernel_rfl
@[simp] theorem fo119_4 : fieldOff Try.prog 119 4 = some 4 := by kernel_rfl
@[simp] theorem ft119_4 : fieldTO Try.prog 119 4 = some (25, 4) := by kernel_rfl
@[simp] theorem pl119 : placesOf Try.prog 119 = some [(0, 1), (1, 1), (2, 1), (3, 1), (4, 1)] := by kernel_rfl
@[simp] theorem tsz120 : tsz? Try.prog 120 = some 3 := by kernel_rfl
@[simp] theorem ag120 : aggOf Try.prog 120 = some true := by kernel_rfl
@[simp] theorem tby120 : tby? Try.prog 120 = some 40 := by kernel_rfl
@[simp] theorem tz120 : tz? Try.prog 120 = some (.agg #[.int .i64 0, .string ⟨#[]⟩, .string ⟨#[]⟩]) := by kernel_rfl
@[simp] theorem el120 : elemT Try.prog 120 = none := by kernel_rfl
@[simp] theorem ar120 : arrOf Try.prog 120 = none := by kernel_rfl
@[simp] theorem fo120_0 : fieldOff Try.prog 120 0 = some 0 := by kernel_rfl
@[simp] theorem ft120_0 : fieldTO Try.prog 120 0 = some (3, 0) := by kernel_rfl
@[simp] theorem fo120_1 : fieldOff Try.prog 120 1 = some 1 := by kernel_rfl
@[simp] theorem ft120_1 : fieldTO Try.prog 120 1 = some (9, 1) := by kernel_rfl
@[simp] theorem fo120_2 : fieldOff Try.prog 120 2 = some 2 := by kernel_rfl
@[simp] theorem ft120_2 : fieldTO Try.prog 120 2 = some (9, 2) := by kernel_rfl
@[simp] theorem pl120 : placesOf Try.prog 120 = some [(0, 1), (1, 1), (2, 1)] := by kernel_rfl
@[simp] theorem tsz121 : tsz? Try.prog 121 = some 3 := by kernel_rfl
@[simp] theorem ag121 : aggOf Try.prog 121 = some true := by kernel_rfl
@[simp] theorem tby121 : tby? Try.prog 121 = some 40 := by kernel_rfl
@[simp] theorem tz121 : tz? Try.prog 121 = some (.agg #[.int .i64 0, .string ⟨#[]⟩, .string ⟨#[]⟩]) := by kernel_rfl
@[simp] theorem el121 : elemT Try.prog 121 = none := by kernel_rfl
@[simp] theorem ar121 : arrOf Try.prog 121 = none := by kernel_rfl
@[simp] theorem fo121_0 : fieldOff Try.prog 121 0 = some 0 := by kernel_rfl
@[simp] theorem ft121_0 : fieldTO Try.prog 121 0 = some (3, 0) := by kernel_rfl
@[simp] theorem fo121_1 : fieldOff Try.prog 121 1 = some 1 := by kernel_rfl
@[simp] theorem ft121_1 : fieldTO Try.prog 121 1 = some (9, 1) := by kernel_rfl
@[simp] theorem fo121_2 : fieldOff Try.prog 121 2 = some 2 := by kernel_rfl
@[simp] theorem ft121_2 : fieldTO Try.prog 121 2 = some (9, 2) := by kernel_rfl
@[simp] theorem pl121 : placesOf Try.prog 121 = some [(0, 1), (1, 1), (2, 1)] := by kernel_rfl
@[simp] theorem tsz122 : tsz? Try.prog 122 = some 1 := by kernel_rfl
@[simp] theorem ag122 : aggOf Try.prog 122 = some false := by kernel_rfl
@[simp] theorem tby122 : tby? Try.prog 122 = some 24 := by kernel_rfl
@[simp] theorem tz122 : tz? Try.prog 122 = some (.slice none 0 0) := by kernel_rfl
@[simp] theorem el122 : elemT Try.prog 122 = some 3 := by kernel_rfl
@[simp] theorem ar122 : arrOf Try.prog 122 = none := by kernel_rfl
@[simp] theorem un122 : Try.prog.underlying 122 = some (.slice 3) := by kernel_rfl
@[simp] theorem tsz123 : tsz? Try.prog 123 = some 4 := by kernel_rfl
@[simp] theorem ag123 : aggOf Try.prog 123 = some true := by kernel_rfl
@[simp] theorem tby123 : tby? Try.prog 123 = some 56 := by kernel_rfl
@[simp] theorem tz123 : tz? Try.prog 123 = some (.agg #[.string ⟨#[]⟩, .int .i64 0, .int .i64 0, .slice none 0 0]) := by kernel_rfl
@[simp] theorem el123 : elemT Try.prog 123 = none := by kernel_rfl
@[simp] theorem ar123 : arrOf Try.prog 123 = none := by kernel_rfl
@[simp] theorem fo123_0 : fieldOff Try.prog 123 0 = some 0 := by kernel_rfl
@[simp] theorem ft123_0 : fieldTO Try.prog 123 0 = some (9, 0) := by kernel_rfl
@[simp] theorem fo123_1 : fieldOff Try.prog 123 1 = some 1 := by kernel_rfl
@[simp] theorem ft123_1 : fieldTO Try.prog 123 1 = some (3, 1) := by kernel_rfl
@[simp] theorem fo123_2 : fieldOff Try.prog 123 2 = some 2 := by kernel_rfl
@[simp] theorem ft123_2 : fieldTO Try.prog 123 2 = some (3, 2) := by kernel_rfl
@[simp] theorem fo123_3 : fieldOff Try.prog 123 3 = some 3 := by kernel_rfl
@[simp] theorem ft123_3 : fieldTO Try.prog 123 3 = some (122, 3) := by kernel_rfl
@[simp] theorem pl123 : placesOf Try.prog 123 = some [(0, 1), (1, 1), (2, 1), (3, 1)] := by kernel_rfl
@[simp] theorem tsz124 : tsz? Try.prog 124 = some 4 := by kernel_rfl
@[simp] theorem ag124 : aggOf Try.prog 124 = some true := by kernel_rfl
@[simp] theorem tby124 : tby? Try.prog 124 = some 56 := by kernel_rfl
@[simp] theorem tz124 : tz? Try.prog 124 = some (.agg #[.string ⟨#[]⟩, .int .i64 0, .int .i64 0, .slice none 0 0]) := by kernel_rfl
@[simp] theorem el124 : elemT Try.prog 124 = none := by kernel_rfl
@[simp] theorem ar124 : arrOf Try.prog 124 = none := by kernel_rfl
@[simp] theorem fo124_0 : fieldOff Try.prog 124 0 = some 0 := by kernel_rfl
@[simp] theorem ft124_0 : fieldTO Try.prog 124 0 = some (9, 0) := by kernel_rfl
@[simp] theorem fo124_1 : fieldOff Try.prog 124 1 = some 1 := by kernel_rfl
@[simp] theorem ft124_1 : fieldTO Try.prog 124 1 = some (3, 1) := by kernel_rfl
@[simp] theorem fo124_2 : fieldOff Try.prog 124 2 = some 2 := by kernel_rfl
@[simp] theorem ft124_2 : fieldTO Try.prog 124 2 = some (3, 2) := by kernel_rfl
@[simp] theorem fo124_3 : fieldOff Try.prog 124 3 = some 3 := by kernel_rfl
@[simp] theorem ft124_3 : fieldTO Try.prog 124 3 = some (122, 3) := by kernel_rfl
@[simp] theorem pl124 : placesOf Try.prog 124 = some [(0, 1), (1, 1), (2, 1), (3, 1)] := by kernel_rfl
end Go.Pv
