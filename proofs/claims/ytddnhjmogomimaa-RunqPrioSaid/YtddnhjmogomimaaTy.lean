/- Facts on the types of this translation, and that its functions are entered; closed facts, no condition. -/
import Derived.Test.YtddnhjmogomimaaAh
import Derived.Test.YtddnhjmogomimaaProg
import Derived.KernelRfl
namespace Go.Proofs.Ytddnhjmogomimaa.Ae
open Go
theorem eqs30 : ∀ (x0 y0 : Int) (x1 y1 : Int), eqS Try.prog 30 (.agg #[.int .i64 x0, .int .i64 x1]) (.agg #[.int .i64 y0, .int .i64 y1]) = some (decide (x0 = y0) && (decide (x1 = y1) && true)) := by intros; kernel_rfl
theorem eqs34 : ∀ (x0 y0 : Int) (x1 y1 : Int), eqS Try.prog 34 (.agg #[.int .i64 x0, .int .i64 x1]) (.agg #[.int .i64 y0, .int .i64 y1]) = some (decide (x0 = y0) && (decide (x1 = y1) && true)) := by intros; kernel_rfl
theorem eqs4 : ∀ (x0 y0 : Bool), eqS Try.prog 4 (.bool x0) (.bool y0) = some (x0 == y0) := by intros; kernel_rfl
theorem eqs76 : ∀ (x0 y0 : Int) (x1 y1 : Int), eqS Try.prog 76 (.agg #[.int .i64 x0, .int .i64 x1]) (.agg #[.int .i64 y0, .int .i64 y1]) = some (decide (x0 = y0) && (decide (x1 = y1) && true)) := by intros; kernel_rfl
theorem eqs78 : ∀ (x0 y0 : Int) (x1 y1 : Int) (x2 y2 : Int) (x3 y3 : Int) (x4 y4 : Int) (x5 y5 : Int) (x6 y6 : Int) (x7 y7 : Int), eqS Try.prog 78 (.agg #[.int .i64 x0, .int .i64 x1, .int .u32 x2, .int .u32 x3, .int .u32 x4, .int .u32 x5, .int .u32 x6, .int .u32 x7]) (.agg #[.int .i64 y0, .int .i64 y1, .int .u32 y2, .int .u32 y3, .int .u32 y4, .int .u32 y5, .int .u32 y6, .int .u32 y7]) = some (decide (x0 = y0) && (decide (x1 = y1) && (decide (x2 = y2) && (decide (x3 = y3) && (decide (x4 = y4) && (decide (x5 = y5) && (decide (x6 = y6) && (decide (x7 = y7) && true)))))))) := by intros; kernel_rfl
theorem tagg100 : tagg Try.prog 100 = some true := by kernel_rfl
theorem tagg117 : tagg Try.prog 117 = some true := by kernel_rfl
theorem tagg120 : tagg Try.prog 120 = some true := by kernel_rfl
theorem tagg158 : tagg Try.prog 158 = some false := by kernel_rfl
theorem tagg22 : tagg Try.prog 22 = some false := by kernel_rfl
theorem tagg24 : tagg Try.prog 24 = some false := by kernel_rfl
theorem tagg27 : tagg Try.prog 27 = some false := by kernel_rfl
theorem tagg3 : tagg Try.prog 3 = some false := by kernel_rfl
theorem tagg30 : tagg Try.prog 30 = some true := by kernel_rfl
theorem tagg34 : tagg Try.prog 34 = some true := by kernel_rfl
theorem tagg37 : tagg Try.prog 37 = some false := by kernel_rfl
theorem tagg4 : tagg Try.prog 4 = some false := by kernel_rfl
theorem tagg49 : tagg Try.prog 49 = some false := by kernel_rfl
theorem tagg53 : tagg Try.prog 53 = some true := by kernel_rfl
theorem tagg57 : tagg Try.prog 57 = some false := by kernel_rfl
theorem tagg60 : tagg Try.prog 60 = some false := by kernel_rfl
theorem tagg64 : tagg Try.prog 64 = some true := by kernel_rfl
theorem tagg71 : tagg Try.prog 71 = some false := by kernel_rfl
theorem tagg76 : tagg Try.prog 76 = some true := by kernel_rfl
theorem tagg78 : tagg Try.prog 78 = some true := by kernel_rfl
theorem tagg80 : tagg Try.prog 80 = some true := by kernel_rfl
theorem tagg90 : tagg Try.prog 90 = some false := by kernel_rfl
theorem tby3 : tby Try.prog 3 = 8 := by kernel_rfl
theorem tf100_0 : tfield Try.prog 100 0 = some (0, 76) := by kernel_rfl
theorem tf100_1 : tfield Try.prog 100 1 = some (2, 78) := by kernel_rfl
theorem tf100_2 : tfield Try.prog 100 2 = some (10, 3) := by kernel_rfl
theorem tf100_3 : tfield Try.prog 100 3 = some (11, 4) := by kernel_rfl
theorem tf100_4 : tfield Try.prog 100 4 = some (12, 4) := by kernel_rfl
theorem tf117_0 : tfield Try.prog 117 0 = some (0, 30) := by kernel_rfl
theorem tf117_1 : tfield Try.prog 117 1 = some (2, 34) := by kernel_rfl
theorem tf120_0 : tfield Try.prog 120 0 = some (0, 3) := by kernel_rfl
theorem tf120_1 : tfield Try.prog 120 1 = some (1, 3) := by kernel_rfl
theorem tf123_0 : tfield Try.prog 123 0 = some (0, 3) := by kernel_rfl
theorem tf123_1 : tfield Try.prog 123 1 = some (1, 3) := by kernel_rfl
theorem tf26_0 : tfield Try.prog 26 0 = some (0, 24) := by kernel_rfl
theorem tf30_0 : tfield Try.prog 30 0 = some (0, 3) := by kernel_rfl
theorem tf30_1 : tfield Try.prog 30 1 = some (1, 3) := by kernel_rfl
theorem tf34_0 : tfield Try.prog 34 0 = some (0, 3) := by kernel_rfl
theorem tf34_1 : tfield Try.prog 34 1 = some (1, 3) := by kernel_rfl
theorem tf51_0 : tfield Try.prog 51 0 = some (0, 49) := by kernel_rfl
theorem tf53_0 : tfield Try.prog 53 0 = some (0, 3) := by kernel_rfl
theorem tf53_1 : tfield Try.prog 53 1 = some (1, 3) := by kernel_rfl
theorem tf53_2 : tfield Try.prog 53 2 = some (2, 3) := by kernel_rfl
theorem tf53_3 : tfield Try.prog 53 3 = some (3, 3) := by kernel_rfl
theorem tf53_4 : tfield Try.prog 53 4 = some (4, 3) := by kernel_rfl
theorem tf59_0 : tfield Try.prog 59 0 = some (0, 57) := by kernel_rfl
theorem tf62_0 : tfield Try.prog 62 0 = some (0, 60) := by kernel_rfl
theorem tf64_0 : tfield Try.prog 64 0 = some (0, 3) := by kernel_rfl
theorem tf64_1 : tfield Try.prog 64 1 = some (1, 3) := by kernel_rfl
theorem tf64_2 : tfield Try.prog 64 2 = some (2, 3) := by kernel_rfl
theorem tf73_0 : tfield Try.prog 73 0 = some (0, 71) := by kernel_rfl
theorem tf76_0 : tfield Try.prog 76 0 = some (0, 3) := by kernel_rfl
theorem tf76_1 : tfield Try.prog 76 1 = some (1, 3) := by kernel_rfl
theorem tf78_0 : tfield Try.prog 78 0 = some (0, 3) := by kernel_rfl
theorem tf78_1 : tfield Try.prog 78 1 = some (1, 3) := by kernel_rfl
theorem tf78_2 : tfield Try.prog 78 2 = some (2, 37) := by kernel_rfl
theorem tf78_3 : tfield Try.prog 78 3 = some (3, 37) := by kernel_rfl
theorem tf78_4 : tfield Try.prog 78 4 = some (4, 37) := by kernel_rfl
theorem tf78_5 : tfield Try.prog 78 5 = some (5, 37) := by kernel_rfl
theorem tf78_6 : tfield Try.prog 78 6 = some (6, 37) := by kernel_rfl
theorem tf78_7 : tfield Try.prog 78 7 = some (7, 37) := by kernel_rfl
theorem tf80_0 : tfield Try.prog 80 0 = some (0, 76) := by kernel_rfl
theorem tf80_1 : tfield Try.prog 80 1 = some (2, 78) := by kernel_rfl
theorem tf80_2 : tfield Try.prog 80 2 = some (10, 3) := by kernel_rfl
theorem tf80_3 : tfield Try.prog 80 3 = some (11, 4) := by kernel_rfl
theorem tf80_4 : tfield Try.prog 80 4 = some (12, 4) := by kernel_rfl
theorem tf92_0 : tfield Try.prog 92 0 = some (0, 90) := by kernel_rfl
theorem tf95_0 : tfield Try.prog 95 0 = some (0, 22) := by kernel_rfl
theorem tf95_1 : tfield Try.prog 95 1 = some (1, 3) := by kernel_rfl
theorem tf97_0 : tfield Try.prog 97 0 = some (0, 3) := by kernel_rfl
theorem tf97_1 : tfield Try.prog 97 1 = some (1, 3) := by kernel_rfl
theorem tf97_2 : tfield Try.prog 97 2 = some (2, 3) := by kernel_rfl
theorem tf97_3 : tfield Try.prog 97 3 = some (3, 3) := by kernel_rfl
theorem tf97_4 : tfield Try.prog 97 4 = some (4, 4) := by kernel_rfl
theorem ti140 : tint Try.prog 140 = some .u64 := by kernel_rfl
theorem ti158 : tint Try.prog 158 = some .u64 := by kernel_rfl
theorem ti3 : tint Try.prog 3 = some .i64 := by kernel_rfl
theorem ti37 : tint Try.prog 37 = some .u32 := by kernel_rfl
theorem ti5 : tint Try.prog 5 = some .u8 := by kernel_rfl
theorem tok100 : tok Try.prog 100 = true := by kernel_rfl
theorem tok117 : tok Try.prog 117 = true := by kernel_rfl
theorem tok120 : tok Try.prog 120 = true := by kernel_rfl
theorem tok123 : tok Try.prog 123 = true := by kernel_rfl
theorem tok158 : tok Try.prog 158 = true := by kernel_rfl
theorem tok22 : tok Try.prog 22 = true := by kernel_rfl
theorem tok24 : tok Try.prog 24 = true := by kernel_rfl
theorem tok26 : tok Try.prog 26 = true := by kernel_rfl
theorem tok27 : tok Try.prog 27 = true := by kernel_rfl
theorem tok3 : tok Try.prog 3 = true := by kernel_rfl
theorem tok30 : tok Try.prog 30 = true := by kernel_rfl
theorem tok34 : tok Try.prog 34 = true := by kernel_rfl
theorem tok37 : tok Try.prog 37 = true := by kernel_rfl
theorem tok4 : tok Try.prog 4 = true := by kernel_rfl
theorem tok49 : tok Try.prog 49 = true := by kernel_rfl
theorem tok51 : tok Try.prog 51 = true := by kernel_rfl
theorem tok53 : tok Try.prog 53 = true := by kernel_rfl
theorem tok57 : tok Try.prog 57 = true := by kernel_rfl
theorem tok59 : tok Try.prog 59 = true := by kernel_rfl
theorem tok60 : tok Try.prog 60 = true := by kernel_rfl
theorem tok62 : tok Try.prog 62 = true := by kernel_rfl
theorem tok64 : tok Try.prog 64 = true := by kernel_rfl
theorem tok71 : tok Try.prog 71 = true := by kernel_rfl
theorem tok73 : tok Try.prog 73 = true := by kernel_rfl
theorem tok76 : tok Try.prog 76 = true := by kernel_rfl
theorem tok78 : tok Try.prog 78 = true := by kernel_rfl
theorem tok80 : tok Try.prog 80 = true := by kernel_rfl
theorem tok90 : tok Try.prog 90 = true := by kernel_rfl
theorem tok92 : tok Try.prog 92 = true := by kernel_rfl
theorem tok95 : tok Try.prog 95 = true := by kernel_rfl
theorem tok97 : tok Try.prog 97 = true := by kernel_rfl
theorem tp100 : tparts Try.prog 100 = some [(0, 2), (2, 8), (10, 1), (11, 1), (12, 1)] := by kernel_rfl
theorem tp117 : tparts Try.prog 117 = some [(0, 2), (2, 2)] := by kernel_rfl
theorem tp120 : tparts Try.prog 120 = some [(0, 1), (1, 1)] := by kernel_rfl
theorem tp123 : tparts Try.prog 123 = some [(0, 1), (1, 1)] := by kernel_rfl
theorem tp30 : tparts Try.prog 30 = some [(0, 1), (1, 1)] := by kernel_rfl
theorem tp34 : tparts Try.prog 34 = some [(0, 1), (1, 1)] := by kernel_rfl
theorem tp76 : tparts Try.prog 76 = some [(0, 1), (1, 1)] := by kernel_rfl
theorem tp78 : tparts Try.prog 78 = some [(0, 1), (1, 1), (2, 1), (3, 1), (4, 1), (5, 1), (6, 1), (7, 1)] := by kernel_rfl
theorem tp80 : tparts Try.prog 80 = some [(0, 2), (2, 8), (10, 1), (11, 1), (12, 1)] := by kernel_rfl
theorem tp95 : tparts Try.prog 95 = some [(0, 1), (1, 1)] := by kernel_rfl
theorem tsl22 : tslice Try.prog 22 = some 3 := by kernel_rfl
theorem tsl27 : tslice Try.prog 27 = some 30 := by kernel_rfl
theorem tsl47 : tslice Try.prog 47 = some 53 := by kernel_rfl
theorem tsl48 : tslice Try.prog 48 = some 37 := by kernel_rfl
theorem tsl49 : tslice Try.prog 49 = some 117 := by kernel_rfl
theorem tsl56 : tslice Try.prog 56 = some 64 := by kernel_rfl
theorem tsl57 : tslice Try.prog 57 = some 120 := by kernel_rfl
theorem tsl60 : tslice Try.prog 60 = some 123 := by kernel_rfl
theorem tsl84 : tslice Try.prog 84 = some 80 := by kernel_rfl
theorem tsl89 : tslice Try.prog 89 = some 97 := by kernel_rfl
theorem tsl90 : tslice Try.prog 90 = some 100 := by kernel_rfl
theorem tsz100 : tsz Try.prog 100 = 13 := by kernel_rfl
theorem tsz117 : tsz Try.prog 117 = 4 := by kernel_rfl
theorem tsz120 : tsz Try.prog 120 = 2 := by kernel_rfl
theorem tsz123 : tsz Try.prog 123 = 2 := by kernel_rfl
theorem tsz158 : tsz Try.prog 158 = 1 := by kernel_rfl
theorem tsz22 : tsz Try.prog 22 = 1 := by kernel_rfl
theorem tsz24 : tsz Try.prog 24 = 1 := by kernel_rfl
theorem tsz26 : tsz Try.prog 26 = 1 := by kernel_rfl
theorem tsz27 : tsz Try.prog 27 = 1 := by kernel_rfl
theorem tsz3 : tsz Try.prog 3 = 1 := by kernel_rfl
theorem tsz30 : tsz Try.prog 30 = 2 := by kernel_rfl
theorem tsz34 : tsz Try.prog 34 = 2 := by kernel_rfl
theorem tsz37 : tsz Try.prog 37 = 1 := by kernel_rfl
theorem tsz4 : tsz Try.prog 4 = 1 := by kernel_rfl
theorem tsz49 : tsz Try.prog 49 = 1 := by kernel_rfl
theorem tsz51 : tsz Try.prog 51 = 1 := by kernel_rfl
theorem tsz53 : tsz Try.prog 53 = 5 := by kernel_rfl
theorem tsz57 : tsz Try.prog 57 = 1 := by kernel_rfl
theorem tsz59 : tsz Try.prog 59 = 1 := by kernel_rfl
theorem tsz60 : tsz Try.prog 60 = 1 := by kernel_rfl
theorem tsz62 : tsz Try.prog 62 = 1 := by kernel_rfl
theorem tsz64 : tsz Try.prog 64 = 3 := by kernel_rfl
theorem tsz71 : tsz Try.prog 71 = 1 := by kernel_rfl
theorem tsz73 : tsz Try.prog 73 = 1 := by kernel_rfl
theorem tsz76 : tsz Try.prog 76 = 2 := by kernel_rfl
theorem tsz78 : tsz Try.prog 78 = 8 := by kernel_rfl
theorem tsz80 : tsz Try.prog 80 = 13 := by kernel_rfl
theorem tsz90 : tsz Try.prog 90 = 1 := by kernel_rfl
theorem tsz92 : tsz Try.prog 92 = 1 := by kernel_rfl
theorem tsz95 : tsz Try.prog 95 = 2 := by kernel_rfl
theorem tsz97 : tsz Try.prog 97 = 5 := by kernel_rfl
theorem tu140 : (Try.prog.underlying 140).isSome = true := by kernel_rfl
theorem tu152 : (Try.prog.underlying 152).isSome = true := by kernel_rfl
theorem tu3 : (Try.prog.underlying 3).isSome = true := by kernel_rfl
theorem tu37 : (Try.prog.underlying 37).isSome = true := by kernel_rfl
theorem tu5 : (Try.prog.underlying 5).isSome = true := by kernel_rfl
theorem tz100 : tzero Try.prog 100 = some (.agg #[.int .i64 0, .int .i64 0, .int .i64 0, .int .i64 0, .int .u32 0, .int .u32 0, .int .u32 0, .int .u32 0, .int .u32 0, .int .u32 0, .int .i64 0, .bool false, .bool false]) := by kernel_rfl
theorem tz117 : tzero Try.prog 117 = some (.agg #[.int .i64 0, .int .i64 0, .int .i64 0, .int .i64 0]) := by kernel_rfl
theorem tz120 : tzero Try.prog 120 = some (.agg #[.int .i64 0, .int .i64 0]) := by kernel_rfl
theorem tz123 : tzero Try.prog 123 = some (.agg #[.int .i64 0, .int .i64 0]) := by kernel_rfl
theorem tz158 : tzero Try.prog 158 = some (.int .u64 0) := by kernel_rfl
theorem tz26 : tzero Try.prog 26 = some (.agg #[.map none]) := by kernel_rfl
theorem tz3 : tzero Try.prog 3 = some (.int .i64 0) := by kernel_rfl
theorem tz30 : tzero Try.prog 30 = some (.agg #[.int .i64 0, .int .i64 0]) := by kernel_rfl
theorem tz34 : tzero Try.prog 34 = some (.agg #[.int .i64 0, .int .i64 0]) := by kernel_rfl
theorem tz51 : tzero Try.prog 51 = some (.agg #[.slice none 0 0]) := by kernel_rfl
theorem tz53 : tzero Try.prog 53 = some (.agg #[.int .i64 0, .int .i64 0, .int .i64 0, .int .i64 0, .int .i64 0]) := by kernel_rfl
theorem tz59 : tzero Try.prog 59 = some (.agg #[.slice none 0 0]) := by kernel_rfl
theorem tz62 : tzero Try.prog 62 = some (.agg #[.slice none 0 0]) := by kernel_rfl
theorem tz64 : tzero Try.prog 64 = some (.agg #[.int .i64 0, .int .i64 0, .int .i64 0]) := by kernel_rfl
theorem tz73 : tzero Try.prog 73 = some (.agg #[.map none]) := by kernel_rfl
theorem tz76 : tzero Try.prog 76 = some (.agg #[.int .i64 0, .int .i64 0]) := by kernel_rfl
theorem tz78 : tzero Try.prog 78 = some (.agg #[.int .i64 0, .int .i64 0, .int .u32 0, .int .u32 0, .int .u32 0, .int .u32 0, .int .u32 0, .int .u32 0]) := by kernel_rfl
theorem tz80 : tzero Try.prog 80 = some (.agg #[.int .i64 0, .int .i64 0, .int .i64 0, .int .i64 0, .int .u32 0, .int .u32 0, .int .u32 0, .int .u32 0, .int .u32 0, .int .u32 0, .int .i64 0, .bool false, .bool false]) := by kernel_rfl
theorem tz92 : tzero Try.prog 92 = some (.agg #[.slice none 0 0]) := by kernel_rfl
theorem tz95 : tzero Try.prog 95 = some (.agg #[.slice none 0 0, .int .i64 0]) := by kernel_rfl
theorem real3 : Real Try.prog 3 := ⟨Try.f3, Try.func3, by kernel_rfl, by kernel_rfl⟩
theorem real4 : Real Try.prog 4 := ⟨Try.f4, Try.func4, by kernel_rfl, by kernel_rfl⟩
theorem real5 : Real Try.prog 5 := ⟨Try.f5, Try.func5, by kernel_rfl, by kernel_rfl⟩
theorem real6 : Real Try.prog 6 := ⟨Try.f6, Try.func6, by kernel_rfl, by kernel_rfl⟩
theorem real7 : Real Try.prog 7 := ⟨Try.f7, Try.func7, by kernel_rfl, by kernel_rfl⟩
theorem real8 : Real Try.prog 8 := ⟨Try.f8, Try.func8, by kernel_rfl, by kernel_rfl⟩
theorem real9 : Real Try.prog 9 := ⟨Try.f9, Try.func9, by kernel_rfl, by kernel_rfl⟩
theorem real10 : Real Try.prog 10 := ⟨Try.f10, Try.func10, by kernel_rfl, by kernel_rfl⟩
theorem real11 : Real Try.prog 11 := ⟨Try.f11, Try.func11, by kernel_rfl, by kernel_rfl⟩
theorem real12 : Real Try.prog 12 := ⟨Try.f12, Try.func12, by kernel_rfl, by kernel_rfl⟩
theorem real13 : Real Try.prog 13 := ⟨Try.f13, Try.func13, by kernel_rfl, by kernel_rfl⟩
theorem real14 : Real Try.prog 14 := ⟨Try.f14, Try.func14, by kernel_rfl, by kernel_rfl⟩
theorem real15 : Real Try.prog 15 := ⟨Try.f15, Try.func15, by kernel_rfl, by kernel_rfl⟩
theorem real16 : Real Try.prog 16 := ⟨Try.f16, Try.func16, by kernel_rfl, by kernel_rfl⟩
theorem real17 : Real Try.prog 17 := ⟨Try.f17, Try.func17, by kernel_rfl, by kernel_rfl⟩
theorem real18 : Real Try.prog 18 := ⟨Try.f18, Try.func18, by kernel_rfl, by kernel_rfl⟩
theorem real19 : Real Try.prog 19 := ⟨Try.f19, Try.func19, by kernel_rfl, by kernel_rfl⟩
theorem real20 : Real Try.prog 20 := ⟨Try.f20, Try.func20, by kernel_rfl, by kernel_rfl⟩
theorem real21 : Real Try.prog 21 := ⟨Try.f21, Try.func21, by kernel_rfl, by kernel_rfl⟩
theorem real22 : Real Try.prog 22 := ⟨Try.f22, Try.func22, by kernel_rfl, by kernel_rfl⟩
theorem real23 : Real Try.prog 23 := ⟨Try.f23, Try.func23, by kernel_rfl, by kernel_rfl⟩
theorem real24 : Real Try.prog 24 := ⟨Try.f24, Try.func24, by kernel_rfl, by kernel_rfl⟩
theorem real25 : Real Try.prog 25 := ⟨Try.f25, Try.func25, by kernel_rfl, by kernel_rfl⟩
theorem real26 : Real Try.prog 26 := ⟨Try.f26, Try.func26, by kernel_rfl, by kernel_rfl⟩
theorem real27 : Real Try.prog 27 := ⟨Try.f27, Try.func27, by kernel_rfl, by kernel_rfl⟩
theorem real28 : Real Try.prog 28 := ⟨Try.f28, Try.func28, by kernel_rfl, by kernel_rfl⟩
theorem real29 : Real Try.prog 29 := ⟨Try.f29, Try.func29, by kernel_rfl, by kernel_rfl⟩
theorem real30 : Real Try.prog 30 := ⟨Try.f30, Try.func30, by kernel_rfl, by kernel_rfl⟩
theorem real31 : Real Try.prog 31 := ⟨Try.f31, Try.func31, by kernel_rfl, by kernel_rfl⟩
theorem real32 : Real Try.prog 32 := ⟨Try.f32, Try.func32, by kernel_rfl, by kernel_rfl⟩
theorem real33 : Real Try.prog 33 := ⟨Try.f33, Try.func33, by kernel_rfl, by kernel_rfl⟩
theorem real34 : Real Try.prog 34 := ⟨Try.f34, Try.func34, by kernel_rfl, by kernel_rfl⟩
theorem real35 : Real Try.prog 35 := ⟨Try.f35, Try.func35, by kernel_rfl, by kernel_rfl⟩
theorem real36 : Real Try.prog 36 := ⟨Try.f36, Try.func36, by kernel_rfl, by kernel_rfl⟩
theorem real37 : Real Try.prog 37 := ⟨Try.f37, Try.func37, by kernel_rfl, by kernel_rfl⟩
theorem real38 : Real Try.prog 38 := ⟨Try.f38, Try.func38, by kernel_rfl, by kernel_rfl⟩
theorem real39 : Real Try.prog 39 := ⟨Try.f39, Try.func39, by kernel_rfl, by kernel_rfl⟩
theorem real40 : Real Try.prog 40 := ⟨Try.f40, Try.func40, by kernel_rfl, by kernel_rfl⟩
theorem real41 : Real Try.prog 41 := ⟨Try.f41, Try.func41, by kernel_rfl, by kernel_rfl⟩
theorem real42 : Real Try.prog 42 := ⟨Try.f42, Try.func42, by kernel_rfl, by kernel_rfl⟩
theorem real43 : Real Try.prog 43 := ⟨Try.f43, Try.func43, by kernel_rfl, by kernel_rfl⟩
theorem real44 : Real Try.prog 44 := ⟨Try.f44, Try.func44, by kernel_rfl, by kernel_rfl⟩
theorem real45 : Real Try.prog 45 := ⟨Try.f45, Try.func45, by kernel_rfl, by kernel_rfl⟩
theorem real46 : Real Try.prog 46 := ⟨Try.f46, Try.func46, by kernel_rfl, by kernel_rfl⟩
theorem real47 : Real Try.prog 47 := ⟨Try.f47, Try.func47, by kernel_rfl, by kernel_rfl⟩
theorem real48 : Real Try.prog 48 := ⟨Try.f48, Try.func48, by kernel_rfl, by kernel_rfl⟩
theorem real49 : Real Try.prog 49 := ⟨Try.f49, Try.func49, by kernel_rfl, by kernel_rfl⟩
theorem real50 : Real Try.prog 50 := ⟨Try.f50, Try.func50, by kernel_rfl, by kernel_rfl⟩
theorem real51 : Real Try.prog 51 := ⟨Try.f51, Try.func51, by kernel_rfl, by kernel_rfl⟩
theorem real52 : Real Try.prog 52 := ⟨Try.f52, Try.func52, by kernel_rfl, by kernel_rfl⟩
theorem real53 : Real Try.prog 53 := ⟨Try.f53, Try.func53, by kernel_rfl, by kernel_rfl⟩
theorem real54 : Real Try.prog 54 := ⟨Try.f54, Try.func54, by kernel_rfl, by kernel_rfl⟩
theorem real55 : Real Try.prog 55 := ⟨Try.f55, Try.func55, by kernel_rfl, by kernel_rfl⟩
theorem real56 : Real Try.prog 56 := ⟨Try.f56, Try.func56, by kernel_rfl, by kernel_rfl⟩
theorem real57 : Real Try.prog 57 := ⟨Try.f57, Try.func57, by kernel_rfl, by kernel_rfl⟩
theorem real58 : Real Try.prog 58 := ⟨Try.f58, Try.func58, by kernel_rfl, by kernel_rfl⟩
theorem real59 : Real Try.prog 59 := ⟨Try.f59, Try.func59, by kernel_rfl, by kernel_rfl⟩
theorem real60 : Real Try.prog 60 := ⟨Try.f60, Try.func60, by kernel_rfl, by kernel_rfl⟩
theorem real61 : Real Try.prog 61 := ⟨Try.f61, Try.func61, by kernel_rfl, by kernel_rfl⟩
theorem real62 : Real Try.prog 62 := ⟨Try.f62, Try.func62, by kernel_rfl, by kernel_rfl⟩
theorem real63 : Real Try.prog 63 := ⟨Try.f63, Try.func63, by kernel_rfl, by kernel_rfl⟩
theorem real64 : Real Try.prog 64 := ⟨Try.f64, Try.func64, by kernel_rfl, by kernel_rfl⟩
theorem real65 : Real Try.prog 65 := ⟨Try.f65, Try.func65, by kernel_rfl, by kernel_rfl⟩
theorem real66 : Real Try.prog 66 := ⟨Try.f66, Try.func66, by kernel_rfl, by kernel_rfl⟩
theorem real67 : Real Try.prog 67 := ⟨Try.f67, Try.func67, by kernel_rfl, by kernel_rfl⟩
theorem real68 : Real Try.prog 68 := ⟨Try.f68, Try.func68, by kernel_rfl, by kernel_rfl⟩
theorem real69 : Real Try.prog 69 := ⟨Try.f69, Try.func69, by kernel_rfl, by kernel_rfl⟩
theorem real70 : Real Try.prog 70 := ⟨Try.f70, Try.func70, by kernel_rfl, by kernel_rfl⟩
theorem real71 : Real Try.prog 71 := ⟨Try.f71, Try.func71, by kernel_rfl, by kernel_rfl⟩
theorem real72 : Real Try.prog 72 := ⟨Try.f72, Try.func72, by kernel_rfl, by kernel_rfl⟩
theorem real73 : Real Try.prog 73 := ⟨Try.f73, Try.func73, by kernel_rfl, by kernel_rfl⟩
theorem real74 : Real Try.prog 74 := ⟨Try.f74, Try.func74, by kernel_rfl, by kernel_rfl⟩
theorem real75 : Real Try.prog 75 := ⟨Try.f75, Try.func75, by kernel_rfl, by kernel_rfl⟩
theorem real76 : Real Try.prog 76 := ⟨Try.f76, Try.func76, by kernel_rfl, by kernel_rfl⟩
theorem real77 : Real Try.prog 77 := ⟨Try.f77, Try.func77, by kernel_rfl, by kernel_rfl⟩
theorem real78 : Real Try.prog 78 := ⟨Try.f78, Try.func78, by kernel_rfl, by kernel_rfl⟩
theorem real79 : Real Try.prog 79 := ⟨Try.f79, Try.func79, by kernel_rfl, by kernel_rfl⟩
theorem real80 : Real Try.prog 80 := ⟨Try.f80, Try.func80, by kernel_rfl, by kernel_rfl⟩
theorem real81 : Real Try.prog 81 := ⟨Try.f81, Try.func81, by kernel_rfl, by kernel_rfl⟩
theorem real82 : Real Try.prog 82 := ⟨Try.f82, Try.func82, by kernel_rfl, by kernel_rfl⟩
theorem real83 : Real Try.prog 83 := ⟨Try.f83, Try.func83, by kernel_rfl, by kernel_rfl⟩
theorem real84 : Real Try.prog 84 := ⟨Try.f84, Try.func84, by kernel_rfl, by kernel_rfl⟩
theorem real85 : Real Try.prog 85 := ⟨Try.f85, Try.func85, by kernel_rfl, by kernel_rfl⟩
theorem real86 : Real Try.prog 86 := ⟨Try.f86, Try.func86, by kernel_rfl, by kernel_rfl⟩
theorem real87 : Real Try.prog 87 := ⟨Try.f87, Try.func87, by kernel_rfl, by kernel_rfl⟩
theorem real88 : Real Try.prog 88 := ⟨Try.f88, Try.func88, by kernel_rfl, by kernel_rfl⟩
theorem real89 : Real Try.prog 89 := ⟨Try.f89, Try.func89, by kernel_rfl, by kernel_rfl⟩
theorem real90 : Real Try.prog 90 := ⟨Try.f90, Try.func90, by kernel_rfl, by kernel_rfl⟩
theorem real91 : Real Try.prog 91 := ⟨Try.f91, Try.func91, by kernel_rfl, by kernel_rfl⟩
theorem real92 : Real Try.prog 92 := ⟨Try.f92, Try.func92, by kernel_rfl, by kernel_rfl⟩
theorem real93 : Real Try.prog 93 := ⟨Try.f93, Try.func93, by kernel_rfl, by kernel_rfl⟩
theorem real94 : Real Try.prog 94 := ⟨Try.f94, Try.func94, by kernel_rfl, by kernel_rfl⟩
theorem real95 : Real Try.prog 95 := ⟨Try.f95, Try.func95, by kernel_rfl, by kernel_rfl⟩
theorem real96 : Real Try.prog 96 := ⟨Try.f96, Try.func96, by kernel_rfl, by kernel_rfl⟩
theorem real97 : Real Try.prog 97 := ⟨Try.f97, Try.func97, by kernel_rfl, by kernel_rfl⟩
theorem real98 : Real Try.prog 98 := ⟨Try.f98, Try.func98, by kernel_rfl, by kernel_rfl⟩
theorem real99 : Real Try.prog 99 := ⟨Try.f99, Try.func99, by kernel_rfl, by kernel_rfl⟩
theorem real100 : Real Try.prog 100 := ⟨Try.f100, Try.func100, by kernel_rfl, by kernel_rfl⟩
theorem real101 : Real Try.prog 101 := ⟨Try.f101, Try.func101, by kernel_rfl, by kernel_rfl⟩
theorem real102 : Real Try.prog 102 := ⟨Try.f102, Try.func102, by kernel_rfl, by kernel_rfl⟩
theorem real103 : Real Try.prog 103 := ⟨Try.f103, Try.func103, by kernel_rfl, by kernel_rfl⟩
theorem real104 : Real Try.prog 104 := ⟨Try.f104, Try.func104, by kernel_rfl, by kernel_rfl⟩
theorem real105 : Real Try.prog 105 := ⟨Try.f105, Try.func105, by kernel_rfl, by kernel_rfl⟩
theorem real106 : Real Try.prog 106 := ⟨Try.f106, Try.func106, by kernel_rfl, by kernel_rfl⟩
theorem real107 : Real Try.prog 107 := ⟨Try.f107, Try.func107, by kernel_rfl, by kernel_rfl⟩
theorem real108 : Real Try.prog 108 := ⟨Try.f108, Try.func108, by kernel_rfl, by kernel_rfl⟩
theorem real109 : Real Try.prog 109 := ⟨Try.f109, Try.func109, by kernel_rfl, by kernel_rfl⟩
theorem real110 : Real Try.prog 110 := ⟨Try.f110, Try.func110, by kernel_rfl, by kernel_rfl⟩
theorem real111 : Real Try.prog 111 := ⟨Try.f111, Try.func111, by kernel_rfl, by kernel_rfl⟩
theorem real112 : Real Try.prog 112 := ⟨Try.f112, Try.func112, by kernel_rfl, by kernel_rfl⟩
theorem real113 : Real Try.prog 113 := ⟨Try.f113, Try.func113, by kernel_rfl, by kernel_rfl⟩
theorem real114 : Real Try.prog 114 := ⟨Try.f114, Try.func114, by kernel_rfl, by kernel_rfl⟩
theorem real115 : Real Try.prog 115 := ⟨Try.f115, Try.func115, by kernel_rfl, by kernel_rfl⟩
theorem real116 : Real Try.prog 116 := ⟨Try.f116, Try.func116, by kernel_rfl, by kernel_rfl⟩
theorem real117 : Real Try.prog 117 := ⟨Try.f117, Try.func117, by kernel_rfl, by kernel_rfl⟩
theorem real118 : Real Try.prog 118 := ⟨Try.f118, Try.func118, by kernel_rfl, by kernel_rfl⟩
theorem real119 : Real Try.prog 119 := ⟨Try.f119, Try.func119, by kernel_rfl, by kernel_rfl⟩
theorem real120 : Real Try.prog 120 := ⟨Try.f120, Try.func120, by kernel_rfl, by kernel_rfl⟩
theorem real121 : Real Try.prog 121 := ⟨Try.f121, Try.func121, by kernel_rfl, by kernel_rfl⟩
theorem real122 : Real Try.prog 122 := ⟨Try.f122, Try.func122, by kernel_rfl, by kernel_rfl⟩
theorem real123 : Real Try.prog 123 := ⟨Try.f123, Try.func123, by kernel_rfl, by kernel_rfl⟩
theorem real124 : Real Try.prog 124 := ⟨Try.f124, Try.func124, by kernel_rfl, by kernel_rfl⟩
theorem real125 : Real Try.prog 125 := ⟨Try.f125, Try.func125, by kernel_rfl, by kernel_rfl⟩
theorem real126 : Real Try.prog 126 := ⟨Try.f126, Try.func126, by kernel_rfl, by kernel_rfl⟩
theorem real127 : Real Try.prog 127 := ⟨Try.f127, Try.func127, by kernel_rfl, by kernel_rfl⟩
theorem real128 : Real Try.prog 128 := ⟨Try.f128, Try.func128, by kernel_rfl, by kernel_rfl⟩
theorem res3 : Try.f3.results.toList = [.tmp 2] := by kernel_rfl
theorem res4 : Try.f4.results.toList = [.tmp 8] := by kernel_rfl
theorem res5 : Try.f5.results.toList = [.tmp 4] := by kernel_rfl
theorem res6 : Try.f6.results.toList = [.tmp 6] := by kernel_rfl
theorem res7 : Try.f7.results.toList = [.tmp 8] := by kernel_rfl
theorem res8 : Try.f8.results.toList = [.tmp 2] := by kernel_rfl
theorem res9 : Try.f9.results.toList = [.tmp 8] := by kernel_rfl
theorem res10 : Try.f10.results.toList = [.tmp 6] := by kernel_rfl
theorem res11 : Try.f11.results.toList = [.tmp 6] := by kernel_rfl
theorem res12 : Try.f12.results.toList = [.tmp 4] := by kernel_rfl
theorem res13 : Try.f13.results.toList = [.tmp 4] := by kernel_rfl
theorem res14 : Try.f14.results.toList = [.tmp 8] := by kernel_rfl
theorem res15 : Try.f15.results.toList = [.tmp 0] := by kernel_rfl
theorem res16 : Try.f16.results.toList = [.tmp 4] := by kernel_rfl
theorem res17 : Try.f17.results.toList = [.tmp 4] := by kernel_rfl
theorem res18 : Try.f18.results.toList = [.tmp 6] := by kernel_rfl
theorem res19 : Try.f19.results.toList = [.tmp 2] := by kernel_rfl
theorem res20 : Try.f20.results.toList = [.tmp 10, .tmp 11, .tmp 12] := by kernel_rfl
theorem res21 : Try.f21.results.toList = [.tmp 4] := by kernel_rfl
theorem res22 : Try.f22.results.toList = [.cell 4 34, .tmp 5] := by kernel_rfl
theorem res23 : Try.f23.results.toList = [.tmp 4] := by kernel_rfl
theorem res24 : Try.f24.results.toList = [.tmp 4] := by kernel_rfl
theorem res25 : Try.f25.results.toList = [.tmp 4] := by kernel_rfl
theorem res26 : Try.f26.results.toList = [.tmp 4] := by kernel_rfl
theorem res27 : Try.f27.results.toList = [.tmp 4] := by kernel_rfl
theorem res28 : Try.f28.results.toList = [.tmp 6] := by kernel_rfl
theorem res29 : Try.f29.results.toList = [.cell 4 34, .tmp 5] := by kernel_rfl
theorem res30 : Try.f30.results.toList = [.tmp 4] := by kernel_rfl
theorem res31 : Try.f31.results.toList = [.tmp 2] := by kernel_rfl
theorem res32 : Try.f32.results.toList = [.tmp 10, .tmp 11, .tmp 12] := by kernel_rfl
theorem res33 : Try.f33.results.toList = [.tmp 0] := by kernel_rfl
theorem res34 : Try.f34.results.toList = [.tmp 6] := by kernel_rfl
theorem res35 : Try.f35.results.toList = [.tmp 6] := by kernel_rfl
theorem res36 : Try.f36.results.toList = [.tmp 4] := by kernel_rfl
theorem res37 : Try.f37.results.toList = [.tmp 4] := by kernel_rfl
theorem res38 : Try.f38.results.toList = [.tmp 6] := by kernel_rfl
theorem res39 : Try.f39.results.toList = [.tmp 6] := by kernel_rfl
theorem res40 : Try.f40.results.toList = [.tmp 4, .tmp 5] := by kernel_rfl
theorem res41 : Try.f41.results.toList = [.tmp 4, .tmp 5] := by kernel_rfl
theorem res42 : Try.f42.results.toList = [.tmp 4, .tmp 5] := by kernel_rfl
theorem res43 : Try.f43.results.toList = [.tmp 4, .tmp 5] := by kernel_rfl
theorem res44 : Try.f44.results.toList = [.tmp 4] := by kernel_rfl
theorem res45 : Try.f45.results.toList = [.tmp 2] := by kernel_rfl
theorem res46 : Try.f46.results.toList = [.tmp 2] := by kernel_rfl
theorem res47 : Try.f47.results.toList = [.tmp 0] := by kernel_rfl
theorem res48 : Try.f48.results.toList = [.tmp 4] := by kernel_rfl
theorem res49 : Try.f49.results.toList = [.cell 8 76, .tmp 9] := by kernel_rfl
theorem res50 : Try.f50.results.toList = [.tmp 4] := by kernel_rfl
theorem res51 : Try.f51.results.toList = [.tmp 4] := by kernel_rfl
theorem res52 : Try.f52.results.toList = [.tmp 4] := by kernel_rfl
theorem res53 : Try.f53.results.toList = [.cell 4 76, .tmp 5] := by kernel_rfl
theorem res54 : Try.f54.results.toList = [.cell 4 80, .tmp 5] := by kernel_rfl
theorem res55 : Try.f55.results.toList = [.tmp 4] := by kernel_rfl
theorem res56 : Try.f56.results.toList = [.tmp 4] := by kernel_rfl
theorem res57 : Try.f57.results.toList = [.cell 2 78] := by kernel_rfl
theorem res58 : Try.f58.results.toList = [.tmp 4] := by kernel_rfl
theorem res59 : Try.f59.results.toList = [.cell 4 100, .tmp 5] := by kernel_rfl
theorem res60 : Try.f60.results.toList = [.cell 4 80, .tmp 5] := by kernel_rfl
theorem res61 : Try.f61.results.toList = [.cell 4 100, .tmp 5] := by kernel_rfl
theorem res62 : Try.f62.results.toList = [.cell 8 76, .tmp 9] := by kernel_rfl
theorem res63 : Try.f63.results.toList = [.tmp 4] := by kernel_rfl
theorem res64 : Try.f64.results.toList = [.cell 4 76, .tmp 5] := by kernel_rfl
theorem res65 : Try.f65.results.toList = [.tmp 4] := by kernel_rfl
theorem res66 : Try.f66.results.toList = [.tmp 2] := by kernel_rfl
theorem res67 : Try.f67.results.toList = [.tmp 4] := by kernel_rfl
theorem res68 : Try.f68.results.toList = [.tmp 2] := by kernel_rfl
theorem res69 : Try.f69.results.toList = [.tmp 4] := by kernel_rfl
theorem res70 : Try.f70.results.toList = [.tmp 2] := by kernel_rfl
theorem res71 : Try.f71.results.toList = [.tmp 4] := by kernel_rfl
theorem res72 : Try.f72.results.toList = [.tmp 4] := by kernel_rfl
theorem res73 : Try.f73.results.toList = [.tmp 5] := by kernel_rfl
theorem res74 : Try.f74.results.toList = [.tmp 5] := by kernel_rfl
theorem res75 : Try.f75.results.toList = [.tmp 4] := by kernel_rfl
theorem res76 : Try.f76.results.toList = [.tmp 2] := by kernel_rfl
theorem res77 : Try.f77.results.toList = [.tmp 4] := by kernel_rfl
theorem res78 : Try.f78.results.toList = [.tmp 2] := by kernel_rfl
theorem res79 : Try.f79.results.toList = [.tmp 4] := by kernel_rfl
theorem res80 : Try.f80.results.toList = [.tmp 2] := by kernel_rfl
theorem res81 : Try.f81.results.toList = [.tmp 6] := by kernel_rfl
theorem res82 : Try.f82.results.toList = [.tmp 4] := by kernel_rfl
theorem res83 : Try.f83.results.toList = [] := by kernel_rfl
theorem res84 : Try.f84.results.toList = [.tmp 4] := by kernel_rfl
theorem res85 : Try.f85.results.toList = [.tmp 4] := by kernel_rfl
theorem res86 : Try.f86.results.toList = [.tmp 4] := by kernel_rfl
theorem res87 : Try.f87.results.toList = [.tmp 2] := by kernel_rfl
theorem res88 : Try.f88.results.toList = [.tmp 4] := by kernel_rfl
theorem res89 : Try.f89.results.toList = [.tmp 4] := by kernel_rfl
theorem res90 : Try.f90.results.toList = [.tmp 2] := by kernel_rfl
theorem res91 : Try.f91.results.toList = [] := by kernel_rfl
theorem res92 : Try.f92.results.toList = [] := by kernel_rfl
theorem res93 : Try.f93.results.toList = [.tmp 2] := by kernel_rfl
theorem res94 : Try.f94.results.toList = [] := by kernel_rfl
theorem res95 : Try.f95.results.toList = [.tmp 4] := by kernel_rfl
theorem res96 : Try.f96.results.toList = [.tmp 3] := by kernel_rfl
theorem res97 : Try.f97.results.toList = [] := by kernel_rfl
theorem res98 : Try.f98.results.toList = [.tmp 2] := by kernel_rfl
theorem res99 : Try.f99.results.toList = [.tmp 4] := by kernel_rfl
theorem res100 : Try.f100.results.toList = [] := by kernel_rfl
theorem res101 : Try.f101.results.toList = [] := by kernel_rfl
theorem res102 : Try.f102.results.toList = [] := by kernel_rfl
theorem res103 : Try.f103.results.toList = [] := by kernel_rfl
theorem res104 : Try.f104.results.toList = [.tmp 8, .tmp 9] := by kernel_rfl
theorem res105 : Try.f105.results.toList = [] := by kernel_rfl
theorem res106 : Try.f106.results.toList = [.tmp 8] := by kernel_rfl
theorem res107 : Try.f107.results.toList = [.tmp 10] := by kernel_rfl
theorem res108 : Try.f108.results.toList = [.tmp 10, .tmp 11] := by kernel_rfl
theorem res109 : Try.f109.results.toList = [.tmp 2] := by kernel_rfl
theorem res110 : Try.f110.results.toList = [.tmp 2] := by kernel_rfl
theorem res111 : Try.f111.results.toList = [] := by kernel_rfl
theorem res112 : Try.f112.results.toList = [] := by kernel_rfl
theorem res113 : Try.f113.results.toList = [] := by kernel_rfl
theorem res114 : Try.f114.results.toList = [.tmp 8, .tmp 9] := by kernel_rfl
theorem res115 : Try.f115.results.toList = [] := by kernel_rfl
theorem res116 : Try.f116.results.toList = [.tmp 8] := by kernel_rfl
theorem res117 : Try.f117.results.toList = [.tmp 10] := by kernel_rfl
theorem res118 : Try.f118.results.toList = [.tmp 10, .tmp 11] := by kernel_rfl
theorem res119 : Try.f119.results.toList = [] := by kernel_rfl
theorem res120 : Try.f120.results.toList = [.tmp 2] := by kernel_rfl
theorem res121 : Try.f121.results.toList = [.tmp 2] := by kernel_rfl
theorem res122 : Try.f122.results.toList = [.tmp 8] := by kernel_rfl
theorem res123 : Try.f123.results.toList = [.tmp 12] := by kernel_rfl
theorem res124 : Try.f124.results.toList = [] := by kernel_rfl
theorem res125 : Try.f125.results.toList = [.tmp 8] := by kernel_rfl
theorem res126 : Try.f126.results.toList = [.tmp 12] := by kernel_rfl
theorem res127 : Try.f127.results.toList = [.tmp 10, .tmp 11] := by kernel_rfl
theorem res128 : Try.f128.results.toList = [.tmp 10, .tmp 11] := by kernel_rfl
theorem mixed : Try.prog.follows .mixedOrders = true := by kernel_rfl
end Go.Proofs.Ytddnhjmogomimaa.Ae
