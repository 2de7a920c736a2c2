/-
  Names for the rows of this program's records, printed by a program of mine (gen_ty.py).
-/
import Derived.Test.YtlnfhilipnldeaaGreatDoorPkg
namespace Go.Pv
open Go
abbrev yNode : Sy := (.pr .str (.pr (.int .i64) .str))
abbrev TNode : Type := ((ByteArray) × ((Int) × (ByteArray)))
abbrev yPoint : Sy := (.pr (.int .i64) (.int .i64))
abbrev TPoint : Type := ((Int) × (Int))
abbrev yShape : Sy := (.pr (.li yPoint) (.li (.li yPoint)))
abbrev TShape : Type := ((List (TPoint)) × (List (List (TPoint))))
abbrev yVec : Sy := (.pr (.int .i64) (.pr (.int .i64) (.int .i64)))
abbrev TVec : Type := ((Int) × ((Int) × (Int)))
abbrev yPlace : Sy := (.pr yVec (.int .i64))
abbrev TPlace : Type := ((TVec) × (Int))
abbrev yPart : Sy := (.pr .str (.pr (.int .i64) (.pr (.int .i64) (.pr .str (.pr .str (.pr (.int .i64) (.pr yShape (.pr .str (.pr (.int .i64) (.pr (.int .i64) (.pr yVec yPlace)))))))))))
abbrev TPart : Type := ((ByteArray) × ((Int) × ((Int) × ((ByteArray) × ((ByteArray) × ((Int) × ((TShape) × ((ByteArray) × ((Int) × ((Int) × ((TVec) × (TPlace))))))))))))
abbrev ySeam : Sy := (.pr .str (.pr .str (.pr .str (.pr (.int .i64) (.pr (.int .i64) (.int .i64))))))
abbrev TSeam : Type := ((ByteArray) × ((ByteArray) × ((ByteArray) × ((Int) × ((Int) × (Int))))))
abbrev yPackage : Sy := (.pr .str (.pr .str (.pr (.li .str) (.pr (.int .i64) (.li .str)))))
abbrev TPackage : Type := ((ByteArray) × ((ByteArray) × ((List (ByteArray)) × ((Int) × (List (ByteArray))))))
abbrev yNeed : Sy := (.pr (.int .i64) (.pr .str .str))
abbrev TNeed : Type := ((Int) × ((ByteArray) × (ByteArray)))
abbrev yDesign : Sy := (.pr .str (.pr (.li yNode) (.pr (.li yPart) (.pr (.li ySeam) (.pr (.li yPackage) (.li yNeed))))))
abbrev TDesign : Type := ((ByteArray) × ((List (TNode)) × ((List (TPart)) × ((List (TSeam)) × ((List (TPackage)) × (List (TNeed)))))))
abbrev yGrade : Sy := (.pr .str (.pr (.int .i64) (.pr (.int .i64) (.li (.int .i64)))))
abbrev TGrade : Type := ((ByteArray) × ((Int) × ((Int) × (List (Int)))))
abbrev ySection : Sy := (.pr .str (.pr (.int .i64) (.pr (.int .i64) (.int .i64))))
abbrev TSection : Type := ((ByteArray) × ((Int) × ((Int) × (Int))))
abbrev yMaterials : Sy := (.pr (.li yGrade) (.li ySection))
abbrev TMaterials : Type := ((List (TGrade)) × (List (TSection)))
abbrev yShipyardlaw31Place : Sy := (.pr yDesign (.pr yMaterials .str))
abbrev TShipyardlaw31Place : Type := ((TDesign) × ((TMaterials) × (ByteArray)))
abbrev yProcedure : Sy := (.pr .str (.pr (.int .i64) (.pr (.int .i64) (.pr (.int .i64) (.pr (.li .str) (.int .i64))))))
abbrev TProcedure : Type := ((ByteArray) × ((Int) × ((Int) × ((Int) × ((List (ByteArray)) × (Int))))))
abbrev yStructuretree : Sy := (.pr .any (.pr .any (.pr .any (.pr .any .any))))
abbrev TStructuretree : Type := ((T) × ((T) × ((T) × ((T) × (T)))))
end Go.Pv
