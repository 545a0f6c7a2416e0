/- Facts on the types of this translation, and that its functions are entered; closed facts, no condition. -/
import Derived.Test.YthdnajcngnaobaaAhSlotsDrop
import Derived.Test.YthdnajcngnaobaaProg
import Derived.KernelRfl
namespace Go.Proofs.Ythdnajcngnaobaa.Ae
open Go
theorem eqm25 : ∀ (a : Nat), eqS Try.prog 25 (.map (some a)) (.map none) = some false := by intros; kernel_rfl
theorem eqs30 : ∀ (x0 y0 : Int) (x1 y1 : Int), eqS Try.prog 30 (.agg #[.int .i64 x0, .int .i64 x1]) (.agg #[.int .i64 y0, .int .i64 y1]) = some (decide (x0 = y0) && (decide (x1 = y1) && true)) := by intros; kernel_rfl
theorem eqs32 : ∀ (x0 y0 : Int) (x1 y1 : Int) (x2 y2 : Int) (x3 y3 : Int) (x4 y4 : Int), eqS Try.prog 32 (.agg #[.int .i64 x0, .int .i64 x1, .int .i64 x2, .int .i64 x3, .int .i64 x4]) (.agg #[.int .i64 y0, .int .i64 y1, .int .i64 y2, .int .i64 y3, .int .i64 y4]) = some (decide (x0 = y0) && (decide (x1 = y1) && (decide (x2 = y2) && (decide (x3 = y3) && (decide (x4 = y4) && true))))) := by intros; kernel_rfl
theorem eqs4 : ∀ (x0 y0 : Bool), eqS Try.prog 4 (.bool x0) (.bool y0) = some (x0 == y0) := by intros; kernel_rfl
theorem eqz25 : eqS Try.prog 25 (.map none) (.map none) = some true := by kernel_rfl
theorem tagg118 : tagg Try.prog 118 = some false := by kernel_rfl
theorem tagg25 : tagg Try.prog 25 = some false := by kernel_rfl
theorem tagg3 : tagg Try.prog 3 = some false := by kernel_rfl
theorem tagg30 : tagg Try.prog 30 = some true := by kernel_rfl
theorem tagg32 : tagg Try.prog 32 = some true := by kernel_rfl
theorem tagg36 : tagg Try.prog 36 = some false := by kernel_rfl
theorem tagg39 : tagg Try.prog 39 = some false := by kernel_rfl
theorem tagg55 : tagg Try.prog 55 = some false := by kernel_rfl
theorem tagg72 : tagg Try.prog 72 = some false := by kernel_rfl
theorem tagg80 : tagg Try.prog 80 = some true := by kernel_rfl
theorem tagg98 : tagg Try.prog 98 = some true := by kernel_rfl
theorem tf27_0 : tfield Try.prog 27 0 = some (0, 25) := by kernel_rfl
theorem tf30_0 : tfield Try.prog 30 0 = some (0, 3) := by kernel_rfl
theorem tf30_1 : tfield Try.prog 30 1 = some (1, 3) := by kernel_rfl
theorem tf32_0 : tfield Try.prog 32 0 = some (0, 3) := by kernel_rfl
theorem tf32_1 : tfield Try.prog 32 1 = some (1, 3) := by kernel_rfl
theorem tf32_2 : tfield Try.prog 32 2 = some (2, 3) := by kernel_rfl
theorem tf32_3 : tfield Try.prog 32 3 = some (3, 3) := by kernel_rfl
theorem tf32_4 : tfield Try.prog 32 4 = some (4, 3) := by kernel_rfl
theorem tf42_0 : tfield Try.prog 42 0 = some (0, 39) := by kernel_rfl
theorem tf42_1 : tfield Try.prog 42 1 = some (1, 3) := by kernel_rfl
theorem tf69_0 : tfield Try.prog 69 0 = some (0, 3) := by kernel_rfl
theorem tf69_1 : tfield Try.prog 69 1 = some (1, 3) := by kernel_rfl
theorem tf69_2 : tfield Try.prog 69 2 = some (2, 3) := by kernel_rfl
theorem tf69_3 : tfield Try.prog 69 3 = some (3, 3) := by kernel_rfl
theorem tf74_0 : tfield Try.prog 74 0 = some (0, 72) := by kernel_rfl
theorem tf80_0 : tfield Try.prog 80 0 = some (0, 32) := by kernel_rfl
theorem tf80_1 : tfield Try.prog 80 1 = some (5, 30) := by kernel_rfl
theorem tf98_0 : tfield Try.prog 98 0 = some (0, 30) := by kernel_rfl
theorem tf98_1 : tfield Try.prog 98 1 = some (2, 30) := by kernel_rfl
theorem tf98_2 : tfield Try.prog 98 2 = some (4, 32) := by kernel_rfl
theorem ti118 : tint Try.prog 118 = some .u64 := by kernel_rfl
theorem ti24 : tint Try.prog 24 = some .u64 := by kernel_rfl
theorem ti3 : tint Try.prog 3 = some .i64 := by kernel_rfl
theorem ti36 : tint Try.prog 36 = some .u32 := by kernel_rfl
theorem ti5 : tint Try.prog 5 = some .u8 := by kernel_rfl
theorem tok118 : tok Try.prog 118 = true := by kernel_rfl
theorem tok25 : tok Try.prog 25 = true := by kernel_rfl
theorem tok27 : tok Try.prog 27 = true := by kernel_rfl
theorem tok3 : tok Try.prog 3 = true := by kernel_rfl
theorem tok30 : tok Try.prog 30 = true := by kernel_rfl
theorem tok32 : tok Try.prog 32 = true := by kernel_rfl
theorem tok36 : tok Try.prog 36 = true := by kernel_rfl
theorem tok39 : tok Try.prog 39 = true := by kernel_rfl
theorem tok42 : tok Try.prog 42 = true := by kernel_rfl
theorem tok55 : tok Try.prog 55 = true := by kernel_rfl
theorem tok69 : tok Try.prog 69 = true := by kernel_rfl
theorem tok72 : tok Try.prog 72 = true := by kernel_rfl
theorem tok74 : tok Try.prog 74 = true := by kernel_rfl
theorem tok80 : tok Try.prog 80 = true := by kernel_rfl
theorem tok98 : tok Try.prog 98 = true := by kernel_rfl
theorem tp30 : tparts Try.prog 30 = some [(0, 1), (1, 1)] := by kernel_rfl
theorem tp32 : tparts Try.prog 32 = some [(0, 1), (1, 1), (2, 1), (3, 1), (4, 1)] := by kernel_rfl
theorem tp42 : tparts Try.prog 42 = some [(0, 1), (1, 1)] := by kernel_rfl
theorem tp80 : tparts Try.prog 80 = some [(0, 5), (5, 2)] := by kernel_rfl
theorem tp98 : tparts Try.prog 98 = some [(0, 2), (2, 2), (4, 5)] := by kernel_rfl
theorem tsl39 : tslice Try.prog 39 = some 3 := by kernel_rfl
theorem tsl46 : tslice Try.prog 46 = some 32 := by kernel_rfl
theorem tsl48 : tslice Try.prog 48 = some 36 := by kernel_rfl
theorem tsl55 : tslice Try.prog 55 = some 30 := by kernel_rfl
theorem tsl66 : tslice Try.prog 66 = some 69 := by kernel_rfl
theorem tsl72 : tslice Try.prog 72 = some 98 := by kernel_rfl
theorem tsz118 : tsz Try.prog 118 = 1 := by kernel_rfl
theorem tsz25 : tsz Try.prog 25 = 1 := by kernel_rfl
theorem tsz27 : tsz Try.prog 27 = 1 := by kernel_rfl
theorem tsz3 : tsz Try.prog 3 = 1 := by kernel_rfl
theorem tsz30 : tsz Try.prog 30 = 2 := by kernel_rfl
theorem tsz32 : tsz Try.prog 32 = 5 := by kernel_rfl
theorem tsz36 : tsz Try.prog 36 = 1 := by kernel_rfl
theorem tsz39 : tsz Try.prog 39 = 1 := by kernel_rfl
theorem tsz42 : tsz Try.prog 42 = 2 := by kernel_rfl
theorem tsz55 : tsz Try.prog 55 = 1 := by kernel_rfl
theorem tsz69 : tsz Try.prog 69 = 4 := by kernel_rfl
theorem tsz72 : tsz Try.prog 72 = 1 := by kernel_rfl
theorem tsz74 : tsz Try.prog 74 = 1 := by kernel_rfl
theorem tsz80 : tsz Try.prog 80 = 7 := by kernel_rfl
theorem tsz98 : tsz Try.prog 98 = 9 := by kernel_rfl
theorem tu117 : (Try.prog.underlying 117).isSome = true := by kernel_rfl
theorem tu24 : (Try.prog.underlying 24).isSome = true := by kernel_rfl
theorem tu3 : (Try.prog.underlying 3).isSome = true := by kernel_rfl
theorem tu36 : (Try.prog.underlying 36).isSome = true := by kernel_rfl
theorem tu5 : (Try.prog.underlying 5).isSome = true := by kernel_rfl
theorem tz118 : tzero Try.prog 118 = some (.int .u64 0) := by kernel_rfl
theorem tz27 : tzero Try.prog 27 = some (.agg #[.map none]) := by kernel_rfl
theorem tz3 : tzero Try.prog 3 = some (.int .i64 0) := by kernel_rfl
theorem tz30 : tzero Try.prog 30 = some (.agg #[.int .i64 0, .int .i64 0]) := by kernel_rfl
theorem tz32 : tzero Try.prog 32 = some (.agg #[.int .i64 0, .int .i64 0, .int .i64 0, .int .i64 0, .int .i64 0]) := by kernel_rfl
theorem tz36 : tzero Try.prog 36 = some (.int .u32 0) := by kernel_rfl
theorem tz42 : tzero Try.prog 42 = some (.agg #[.slice none 0 0, .int .i64 0]) := by kernel_rfl
theorem tz74 : tzero Try.prog 74 = some (.agg #[.slice none 0 0]) := by kernel_rfl
theorem tz80 : tzero Try.prog 80 = some (.agg #[.int .i64 0, .int .i64 0, .int .i64 0, .int .i64 0, .int .i64 0, .int .i64 0, .int .i64 0]) := by kernel_rfl
theorem tz98 : tzero Try.prog 98 = some (.agg #[.int .i64 0, .int .i64 0, .int .i64 0, .int .i64 0, .int .i64 0, .int .i64 0, .int .i64 0, .int .i64 0, .int .i64 0]) := by kernel_rfl
theorem real13 : Real Try.prog 13 := ⟨Try.f13, Try.func13, by kernel_rfl, by kernel_rfl⟩
theorem real14 : Real Try.prog 14 := ⟨Try.f14, Try.func14, by kernel_rfl, by kernel_rfl⟩
theorem real23 : Real Try.prog 23 := ⟨Try.f23, Try.func23, by kernel_rfl, by kernel_rfl⟩
theorem real25 : Real Try.prog 25 := ⟨Try.f25, Try.func25, by kernel_rfl, by kernel_rfl⟩
theorem real26 : Real Try.prog 26 := ⟨Try.f26, Try.func26, by kernel_rfl, by kernel_rfl⟩
theorem real27 : Real Try.prog 27 := ⟨Try.f27, Try.func27, by kernel_rfl, by kernel_rfl⟩
theorem real29 : Real Try.prog 29 := ⟨Try.f29, Try.func29, by kernel_rfl, by kernel_rfl⟩
theorem real30 : Real Try.prog 30 := ⟨Try.f30, Try.func30, by kernel_rfl, by kernel_rfl⟩
theorem real33 : Real Try.prog 33 := ⟨Try.f33, Try.func33, by kernel_rfl, by kernel_rfl⟩
theorem real45 : Real Try.prog 45 := ⟨Try.f45, Try.func45, by kernel_rfl, by kernel_rfl⟩
theorem real46 : Real Try.prog 46 := ⟨Try.f46, Try.func46, by kernel_rfl, by kernel_rfl⟩
theorem real47 : Real Try.prog 47 := ⟨Try.f47, Try.func47, by kernel_rfl, by kernel_rfl⟩
theorem real48 : Real Try.prog 48 := ⟨Try.f48, Try.func48, by kernel_rfl, by kernel_rfl⟩
theorem real54 : Real Try.prog 54 := ⟨Try.f54, Try.func54, by kernel_rfl, by kernel_rfl⟩
theorem real57 : Real Try.prog 57 := ⟨Try.f57, Try.func57, by kernel_rfl, by kernel_rfl⟩
theorem real58 : Real Try.prog 58 := ⟨Try.f58, Try.func58, by kernel_rfl, by kernel_rfl⟩
theorem real59 : Real Try.prog 59 := ⟨Try.f59, Try.func59, by kernel_rfl, by kernel_rfl⟩
theorem real61 : Real Try.prog 61 := ⟨Try.f61, Try.func61, by kernel_rfl, by kernel_rfl⟩
theorem real62 : Real Try.prog 62 := ⟨Try.f62, Try.func62, by kernel_rfl, by kernel_rfl⟩
theorem real67 : Real Try.prog 67 := ⟨Try.f67, Try.func67, by kernel_rfl, by kernel_rfl⟩
theorem real71 : Real Try.prog 71 := ⟨Try.f71, Try.func71, by kernel_rfl, by kernel_rfl⟩
theorem real73 : Real Try.prog 73 := ⟨Try.f73, Try.func73, by kernel_rfl, by kernel_rfl⟩
theorem real74 : Real Try.prog 74 := ⟨Try.f74, Try.func74, by kernel_rfl, by kernel_rfl⟩
theorem real77 : Real Try.prog 77 := ⟨Try.f77, Try.func77, by kernel_rfl, by kernel_rfl⟩
theorem real78 : Real Try.prog 78 := ⟨Try.f78, Try.func78, by kernel_rfl, by kernel_rfl⟩
theorem res29 : Try.f29.results.toList = [.cell 4 30] := by kernel_rfl
theorem mixed : Try.prog.follows .mixedOrders = true := by kernel_rfl
end Go.Proofs.Ythdnajcngnaobaa.Ae
