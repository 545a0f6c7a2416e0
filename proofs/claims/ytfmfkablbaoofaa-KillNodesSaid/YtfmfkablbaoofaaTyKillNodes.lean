/- Facts on the types of this translation, and that its functions are entered; closed facts, no condition. -/
import Derived.Test.YtfmfkablbaoofaaAhKillNodes
import Derived.Test.YtfmfkablbaoofaaProg
import Derived.KernelRfl
namespace Go.Proofs.Ytfmfkablbaoofaa.Ae
open Go
theorem eqm24 : ∀ (a : Nat), eqS Try.prog 24 (.map (some a)) (.map none) = some false := by intros; kernel_rfl
theorem eqs29 : ∀ (x0 y0 : Int) (x1 y1 : Int), eqS Try.prog 29 (.agg #[.int .i64 x0, .int .i64 x1]) (.agg #[.int .i64 y0, .int .i64 y1]) = some (decide (x0 = y0) && (decide (x1 = y1) && true)) := by intros; kernel_rfl
theorem eqs31 : ∀ (x0 y0 : Int) (x1 y1 : Int) (x2 y2 : Int) (x3 y3 : Int) (x4 y4 : Int), eqS Try.prog 31 (.agg #[.int .i64 x0, .int .i64 x1, .int .i64 x2, .int .i64 x3, .int .i64 x4]) (.agg #[.int .i64 y0, .int .i64 y1, .int .i64 y2, .int .i64 y3, .int .i64 y4]) = some (decide (x0 = y0) && (decide (x1 = y1) && (decide (x2 = y2) && (decide (x3 = y3) && (decide (x4 = y4) && true))))) := by intros; kernel_rfl
theorem eqs4 : ∀ (x0 y0 : Bool), eqS Try.prog 4 (.bool x0) (.bool y0) = some (x0 == y0) := by intros; kernel_rfl
theorem eqs57 : ∀ (x0 y0 : Int) (x1 y1 : Int), eqS Try.prog 57 (.agg #[.int .i64 x0, .int .i64 x1]) (.agg #[.int .i64 y0, .int .i64 y1]) = some (decide (x0 = y0) && (decide (x1 = y1) && true)) := by intros; kernel_rfl
theorem eqz24 : eqS Try.prog 24 (.map none) (.map none) = some true := by kernel_rfl
theorem tagg105 : tagg Try.prog 105 = some true := by kernel_rfl
theorem tagg129 : tagg Try.prog 129 = some false := by kernel_rfl
theorem tagg22 : tagg Try.prog 22 = some false := by kernel_rfl
theorem tagg24 : tagg Try.prog 24 = some false := by kernel_rfl
theorem tagg29 : tagg Try.prog 29 = some true := by kernel_rfl
theorem tagg3 : tagg Try.prog 3 = some false := by kernel_rfl
theorem tagg31 : tagg Try.prog 31 = some true := by kernel_rfl
theorem tagg38 : tagg Try.prog 38 = some false := by kernel_rfl
theorem tagg4 : tagg Try.prog 4 = some false := by kernel_rfl
theorem tagg57 : tagg Try.prog 57 = some true := by kernel_rfl
theorem tagg62 : tagg Try.prog 62 = some false := by kernel_rfl
theorem tagg88 : tagg Try.prog 88 = some true := by kernel_rfl
theorem tby3 : tby Try.prog 3 = 8 := by kernel_rfl
theorem tf105_0 : tfield Try.prog 105 0 = some (0, 29) := by kernel_rfl
theorem tf105_1 : tfield Try.prog 105 1 = some (2, 29) := by kernel_rfl
theorem tf105_2 : tfield Try.prog 105 2 = some (4, 31) := by kernel_rfl
theorem tf26_0 : tfield Try.prog 26 0 = some (0, 24) := by kernel_rfl
theorem tf29_0 : tfield Try.prog 29 0 = some (0, 3) := by kernel_rfl
theorem tf29_1 : tfield Try.prog 29 1 = some (1, 3) := by kernel_rfl
theorem tf31_0 : tfield Try.prog 31 0 = some (0, 3) := by kernel_rfl
theorem tf31_1 : tfield Try.prog 31 1 = some (1, 3) := by kernel_rfl
theorem tf31_2 : tfield Try.prog 31 2 = some (2, 3) := by kernel_rfl
theorem tf31_3 : tfield Try.prog 31 3 = some (3, 3) := by kernel_rfl
theorem tf31_4 : tfield Try.prog 31 4 = some (4, 3) := by kernel_rfl
theorem tf44_0 : tfield Try.prog 44 0 = some (0, 22) := by kernel_rfl
theorem tf44_1 : tfield Try.prog 44 1 = some (1, 3) := by kernel_rfl
theorem tf57_0 : tfield Try.prog 57 0 = some (0, 3) := by kernel_rfl
theorem tf57_1 : tfield Try.prog 57 1 = some (1, 3) := by kernel_rfl
theorem tf64_0 : tfield Try.prog 64 0 = some (0, 62) := by kernel_rfl
theorem tf67_0 : tfield Try.prog 67 0 = some (0, 3) := by kernel_rfl
theorem tf67_1 : tfield Try.prog 67 1 = some (1, 3) := by kernel_rfl
theorem tf67_2 : tfield Try.prog 67 2 = some (2, 3) := by kernel_rfl
theorem tf77_0 : tfield Try.prog 77 0 = some (0, 3) := by kernel_rfl
theorem tf77_1 : tfield Try.prog 77 1 = some (1, 3) := by kernel_rfl
theorem tf77_2 : tfield Try.prog 77 2 = some (2, 3) := by kernel_rfl
theorem tf77_3 : tfield Try.prog 77 3 = some (3, 3) := by kernel_rfl
theorem tf88_0 : tfield Try.prog 88 0 = some (0, 31) := by kernel_rfl
theorem tf88_1 : tfield Try.prog 88 1 = some (5, 29) := by kernel_rfl
theorem ti129 : tint Try.prog 129 = some .u64 := by kernel_rfl
theorem ti3 : tint Try.prog 3 = some .i64 := by kernel_rfl
theorem ti5 : tint Try.prog 5 = some .u8 := by kernel_rfl
theorem ti79 : tint Try.prog 79 = some .u32 := by kernel_rfl
theorem ti95 : tint Try.prog 95 = some .u64 := by kernel_rfl
theorem tok105 : tok Try.prog 105 = true := by kernel_rfl
theorem tok129 : tok Try.prog 129 = true := by kernel_rfl
theorem tok22 : tok Try.prog 22 = true := by kernel_rfl
theorem tok24 : tok Try.prog 24 = true := by kernel_rfl
theorem tok26 : tok Try.prog 26 = true := by kernel_rfl
theorem tok29 : tok Try.prog 29 = true := by kernel_rfl
theorem tok3 : tok Try.prog 3 = true := by kernel_rfl
theorem tok31 : tok Try.prog 31 = true := by kernel_rfl
theorem tok38 : tok Try.prog 38 = true := by kernel_rfl
theorem tok4 : tok Try.prog 4 = true := by kernel_rfl
theorem tok44 : tok Try.prog 44 = true := by kernel_rfl
theorem tok57 : tok Try.prog 57 = true := by kernel_rfl
theorem tok62 : tok Try.prog 62 = true := by kernel_rfl
theorem tok64 : tok Try.prog 64 = true := by kernel_rfl
theorem tok67 : tok Try.prog 67 = true := by kernel_rfl
theorem tok77 : tok Try.prog 77 = true := by kernel_rfl
theorem tok88 : tok Try.prog 88 = true := by kernel_rfl
theorem tp105 : tparts Try.prog 105 = some [(0, 2), (2, 2), (4, 5)] := by kernel_rfl
theorem tp29 : tparts Try.prog 29 = some [(0, 1), (1, 1)] := by kernel_rfl
theorem tp31 : tparts Try.prog 31 = some [(0, 1), (1, 1), (2, 1), (3, 1), (4, 1)] := by kernel_rfl
theorem tp44 : tparts Try.prog 44 = some [(0, 1), (1, 1)] := by kernel_rfl
theorem tp57 : tparts Try.prog 57 = some [(0, 1), (1, 1)] := by kernel_rfl
theorem tp88 : tparts Try.prog 88 = some [(0, 5), (5, 2)] := by kernel_rfl
theorem tsl22 : tslice Try.prog 22 = some 3 := by kernel_rfl
theorem tsl38 : tslice Try.prog 38 = some 29 := by kernel_rfl
theorem tsl49 : tslice Try.prog 49 = some 57 := by kernel_rfl
theorem tsl55 : tslice Try.prog 55 = some 4 := by kernel_rfl
theorem tsl61 : tslice Try.prog 61 = some 67 := by kernel_rfl
theorem tsl62 : tslice Try.prog 62 = some 105 := by kernel_rfl
theorem tsl75 : tslice Try.prog 75 = some 77 := by kernel_rfl
theorem tsz105 : tsz Try.prog 105 = 9 := by kernel_rfl
theorem tsz129 : tsz Try.prog 129 = 1 := by kernel_rfl
theorem tsz22 : tsz Try.prog 22 = 1 := by kernel_rfl
theorem tsz24 : tsz Try.prog 24 = 1 := by kernel_rfl
theorem tsz26 : tsz Try.prog 26 = 1 := by kernel_rfl
theorem tsz29 : tsz Try.prog 29 = 2 := by kernel_rfl
theorem tsz3 : tsz Try.prog 3 = 1 := by kernel_rfl
theorem tsz31 : tsz Try.prog 31 = 5 := by kernel_rfl
theorem tsz38 : tsz Try.prog 38 = 1 := by kernel_rfl
theorem tsz4 : tsz Try.prog 4 = 1 := by kernel_rfl
theorem tsz44 : tsz Try.prog 44 = 2 := by kernel_rfl
theorem tsz57 : tsz Try.prog 57 = 2 := by kernel_rfl
theorem tsz62 : tsz Try.prog 62 = 1 := by kernel_rfl
theorem tsz64 : tsz Try.prog 64 = 1 := by kernel_rfl
theorem tsz67 : tsz Try.prog 67 = 3 := by kernel_rfl
theorem tsz77 : tsz Try.prog 77 = 4 := by kernel_rfl
theorem tsz88 : tsz Try.prog 88 = 7 := by kernel_rfl
theorem tu126 : (Try.prog.underlying 126).isSome = true := by kernel_rfl
theorem tu3 : (Try.prog.underlying 3).isSome = true := by kernel_rfl
theorem tu5 : (Try.prog.underlying 5).isSome = true := by kernel_rfl
theorem tu79 : (Try.prog.underlying 79).isSome = true := by kernel_rfl
theorem tu95 : (Try.prog.underlying 95).isSome = true := by kernel_rfl
theorem tz105 : tzero Try.prog 105 = some (.agg #[.int .i64 0, .int .i64 0, .int .i64 0, .int .i64 0, .int .i64 0, .int .i64 0, .int .i64 0, .int .i64 0, .int .i64 0]) := by kernel_rfl
theorem tz129 : tzero Try.prog 129 = some (.int .u64 0) := by kernel_rfl
theorem tz26 : tzero Try.prog 26 = some (.agg #[.map none]) := by kernel_rfl
theorem tz29 : tzero Try.prog 29 = some (.agg #[.int .i64 0, .int .i64 0]) := by kernel_rfl
theorem tz3 : tzero Try.prog 3 = some (.int .i64 0) := by kernel_rfl
theorem tz31 : tzero Try.prog 31 = some (.agg #[.int .i64 0, .int .i64 0, .int .i64 0, .int .i64 0, .int .i64 0]) := by kernel_rfl
theorem tz44 : tzero Try.prog 44 = some (.agg #[.slice none 0 0, .int .i64 0]) := by kernel_rfl
theorem tz57 : tzero Try.prog 57 = some (.agg #[.int .i64 0, .int .i64 0]) := by kernel_rfl
theorem tz64 : tzero Try.prog 64 = some (.agg #[.slice none 0 0]) := by kernel_rfl
theorem tz88 : tzero Try.prog 88 = some (.agg #[.int .i64 0, .int .i64 0, .int .i64 0, .int .i64 0, .int .i64 0, .int .i64 0, .int .i64 0]) := by kernel_rfl
theorem real14 : Real Try.prog 14 := ⟨Try.f14, Try.func14, by kernel_rfl, by kernel_rfl⟩
theorem real15 : Real Try.prog 15 := ⟨Try.f15, Try.func15, by kernel_rfl, by kernel_rfl⟩
theorem real17 : Real Try.prog 17 := ⟨Try.f17, Try.func17, by kernel_rfl, by kernel_rfl⟩
theorem real24 : Real Try.prog 24 := ⟨Try.f24, Try.func24, by kernel_rfl, by kernel_rfl⟩
theorem real25 : Real Try.prog 25 := ⟨Try.f25, Try.func25, by kernel_rfl, by kernel_rfl⟩
theorem real27 : Real Try.prog 27 := ⟨Try.f27, Try.func27, by kernel_rfl, by kernel_rfl⟩
theorem real28 : Real Try.prog 28 := ⟨Try.f28, Try.func28, by kernel_rfl, by kernel_rfl⟩
theorem real44 : Real Try.prog 44 := ⟨Try.f44, Try.func44, by kernel_rfl, by kernel_rfl⟩
theorem real45 : Real Try.prog 45 := ⟨Try.f45, Try.func45, by kernel_rfl, by kernel_rfl⟩
theorem real46 : Real Try.prog 46 := ⟨Try.f46, Try.func46, by kernel_rfl, by kernel_rfl⟩
theorem real47 : Real Try.prog 47 := ⟨Try.f47, Try.func47, by kernel_rfl, by kernel_rfl⟩
theorem real50 : Real Try.prog 50 := ⟨Try.f50, Try.func50, by kernel_rfl, by kernel_rfl⟩
theorem real51 : Real Try.prog 51 := ⟨Try.f51, Try.func51, by kernel_rfl, by kernel_rfl⟩
theorem real54 : Real Try.prog 54 := ⟨Try.f54, Try.func54, by kernel_rfl, by kernel_rfl⟩
theorem real55 : Real Try.prog 55 := ⟨Try.f55, Try.func55, by kernel_rfl, by kernel_rfl⟩
theorem real56 : Real Try.prog 56 := ⟨Try.f56, Try.func56, by kernel_rfl, by kernel_rfl⟩
theorem real68 : Real Try.prog 68 := ⟨Try.f68, Try.func68, by kernel_rfl, by kernel_rfl⟩
theorem real69 : Real Try.prog 69 := ⟨Try.f69, Try.func69, by kernel_rfl, by kernel_rfl⟩
theorem real70 : Real Try.prog 70 := ⟨Try.f70, Try.func70, by kernel_rfl, by kernel_rfl⟩
theorem real73 : Real Try.prog 73 := ⟨Try.f73, Try.func73, by kernel_rfl, by kernel_rfl⟩
theorem real74 : Real Try.prog 74 := ⟨Try.f74, Try.func74, by kernel_rfl, by kernel_rfl⟩
theorem real75 : Real Try.prog 75 := ⟨Try.f75, Try.func75, by kernel_rfl, by kernel_rfl⟩
theorem real76 : Real Try.prog 76 := ⟨Try.f76, Try.func76, by kernel_rfl, by kernel_rfl⟩
theorem real77 : Real Try.prog 77 := ⟨Try.f77, Try.func77, by kernel_rfl, by kernel_rfl⟩
theorem real78 : Real Try.prog 78 := ⟨Try.f78, Try.func78, by kernel_rfl, by kernel_rfl⟩
theorem real90 : Real Try.prog 90 := ⟨Try.f90, Try.func90, by kernel_rfl, by kernel_rfl⟩
theorem real91 : Real Try.prog 91 := ⟨Try.f91, Try.func91, by kernel_rfl, by kernel_rfl⟩
theorem real92 : Real Try.prog 92 := ⟨Try.f92, Try.func92, by kernel_rfl, by kernel_rfl⟩
theorem real93 : Real Try.prog 93 := ⟨Try.f93, Try.func93, by kernel_rfl, by kernel_rfl⟩
theorem res17 : Try.f17.results.toList = [.cell 4 31, .tmp 5] := by kernel_rfl
theorem res25 : Try.f25.results.toList = [.tmp 4, .tmp 5] := by kernel_rfl
theorem mixed : Try.prog.follows .mixedOrders = true := by kernel_rfl
end Go.Proofs.Ytfmfkablbaoofaa.Ae
