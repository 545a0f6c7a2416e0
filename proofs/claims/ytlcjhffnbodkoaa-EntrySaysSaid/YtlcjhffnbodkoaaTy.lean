/- Facts on the types of this translation, and that its functions are entered; closed facts, no condition. -/
import Derived.Test.YtlcjhffnbodkoaaAh
import Derived.Test.YtlcjhffnbodkoaaProg
import Derived.KernelRfl
namespace Go.Proofs.Ytlcjhffnbodkoaa.Ae
open Go
theorem eqm22 : ∀ (a : Addr) (l c m d : Nat), eqS Try.prog 22 (.slice (some a) l c) (.slice none m d) = some false := by intros; kernel_rfl
theorem eqn22 : ∀ (a : Addr) (l c m d : Nat), eqS Try.prog 22 (.slice none l c) (.slice (some a) m d) = some false := by intros; kernel_rfl
theorem eqs4 : ∀ (x0 y0 : Bool), eqS Try.prog 4 (.bool x0) (.bool y0) = some (x0 == y0) := by intros; kernel_rfl
theorem eqs46 : ∀ (x0 y0 : Int) (x1 y1 : Int) (x2 y2 : Int) (x3 y3 : Int), eqS Try.prog 46 (.agg #[.int .u32 x0, .int .i32 x1, .int .u32 x2, .int .u32 x3]) (.agg #[.int .u32 y0, .int .i32 y1, .int .u32 y2, .int .u32 y3]) = some (decide (x0 = y0) && (decide (x1 = y1) && (decide (x2 = y2) && (decide (x3 = y3) && true)))) := by intros; kernel_rfl
theorem eqs56 : ∀ (x0 y0 : Int) (x1 y1 : Int) (x2 y2 : Int) (x3 y3 : Int) (x4 y4 : Int) (x5 y5 : Int) (x6 y6 : Int) (x7 y7 : Int), eqS Try.prog 56 (.agg #[.int .i64 x0, .int .i64 x1, .int .u32 x2, .int .u32 x3, .int .u32 x4, .int .u32 x5, .int .u32 x6, .int .u32 x7]) (.agg #[.int .i64 y0, .int .i64 y1, .int .u32 y2, .int .u32 y3, .int .u32 y4, .int .u32 y5, .int .u32 y6, .int .u32 y7]) = some (decide (x0 = y0) && (decide (x1 = y1) && (decide (x2 = y2) && (decide (x3 = y3) && (decide (x4 = y4) && (decide (x5 = y5) && (decide (x6 = y6) && (decide (x7 = y7) && true)))))))) := by intros; kernel_rfl
theorem eqz22 : ∀ (l c m d : Nat), eqS Try.prog 22 (.slice none l c) (.slice none m d) = some true := by intros; kernel_rfl
theorem tagg21 : tagg Try.prog 21 = some false := by kernel_rfl
theorem tagg22 : tagg Try.prog 22 = some false := by kernel_rfl
theorem tagg23 : tagg Try.prog 23 = some false := by kernel_rfl
theorem tagg3 : tagg Try.prog 3 = some false := by kernel_rfl
theorem tagg42 : tagg Try.prog 42 = some true := by kernel_rfl
theorem tagg44 : tagg Try.prog 44 = some true := by kernel_rfl
theorem tagg46 : tagg Try.prog 46 = some true := by kernel_rfl
theorem tagg5 : tagg Try.prog 5 = some false := by kernel_rfl
theorem tagg56 : tagg Try.prog 56 = some true := by kernel_rfl
theorem tagg57 : tagg Try.prog 57 = some false := by kernel_rfl
theorem tagg78 : tagg Try.prog 78 = some true := by kernel_rfl
theorem tby5 : tby Try.prog 5 = 1 := by kernel_rfl
theorem tf42_1 : tfield Try.prog 42 1 = some (1, 3) := by kernel_rfl
theorem tf44_0 : tfield Try.prog 44 0 = some (0, 42) := by kernel_rfl
theorem tf44_1 : tfield Try.prog 44 1 = some (2, 23) := by kernel_rfl
theorem tf44_3 : tfield Try.prog 44 3 = some (4, 3) := by kernel_rfl
theorem tf44_4 : tfield Try.prog 44 4 = some (5, 23) := by kernel_rfl
theorem tf46_0 : tfield Try.prog 46 0 = some (0, 23) := by kernel_rfl
theorem tf46_1 : tfield Try.prog 46 1 = some (1, 21) := by kernel_rfl
theorem tf46_2 : tfield Try.prog 46 2 = some (2, 23) := by kernel_rfl
theorem tf46_3 : tfield Try.prog 46 3 = some (3, 23) := by kernel_rfl
theorem tf56_0 : tfield Try.prog 56 0 = some (0, 3) := by kernel_rfl
theorem tf56_1 : tfield Try.prog 56 1 = some (1, 3) := by kernel_rfl
theorem tf56_2 : tfield Try.prog 56 2 = some (2, 23) := by kernel_rfl
theorem tf56_3 : tfield Try.prog 56 3 = some (3, 23) := by kernel_rfl
theorem tf56_4 : tfield Try.prog 56 4 = some (4, 23) := by kernel_rfl
theorem tf56_5 : tfield Try.prog 56 5 = some (5, 23) := by kernel_rfl
theorem tf56_6 : tfield Try.prog 56 6 = some (6, 23) := by kernel_rfl
theorem tf56_7 : tfield Try.prog 56 7 = some (7, 23) := by kernel_rfl
theorem tf64_0 : tfield Try.prog 64 0 = some (0, 57) := by kernel_rfl
theorem tf64_1 : tfield Try.prog 64 1 = some (1, 3) := by kernel_rfl
theorem tf78_0 : tfield Try.prog 78 0 = some (0, 3) := by kernel_rfl
theorem tf78_1 : tfield Try.prog 78 1 = some (1, 23) := by kernel_rfl
theorem ti21 : tint Try.prog 21 = some .i32 := by kernel_rfl
theorem ti23 : tint Try.prog 23 = some .u32 := by kernel_rfl
theorem ti29 : tint Try.prog 29 = some .u16 := by kernel_rfl
theorem ti3 : tint Try.prog 3 = some .i64 := by kernel_rfl
theorem ti33 : tint Try.prog 33 = some .u64 := by kernel_rfl
theorem ti5 : tint Try.prog 5 = some .u8 := by kernel_rfl
theorem ti68 : tint Try.prog 68 = some .u64 := by kernel_rfl
theorem tok21 : tok Try.prog 21 = true := by kernel_rfl
theorem tok22 : tok Try.prog 22 = true := by kernel_rfl
theorem tok23 : tok Try.prog 23 = true := by kernel_rfl
theorem tok3 : tok Try.prog 3 = true := by kernel_rfl
theorem tok42 : tok Try.prog 42 = true := by kernel_rfl
theorem tok44 : tok Try.prog 44 = true := by kernel_rfl
theorem tok46 : tok Try.prog 46 = true := by kernel_rfl
theorem tok5 : tok Try.prog 5 = true := by kernel_rfl
theorem tok56 : tok Try.prog 56 = true := by kernel_rfl
theorem tok57 : tok Try.prog 57 = true := by kernel_rfl
theorem tok64 : tok Try.prog 64 = true := by kernel_rfl
theorem tok78 : tok Try.prog 78 = true := by kernel_rfl
theorem tp44 : tparts Try.prog 44 = some [(0, 2), (2, 1), (3, 1), (4, 1), (5, 1), (6, 1)] := by kernel_rfl
theorem tp46 : tparts Try.prog 46 = some [(0, 1), (1, 1), (2, 1), (3, 1)] := by kernel_rfl
theorem tp56 : tparts Try.prog 56 = some [(0, 1), (1, 1), (2, 1), (3, 1), (4, 1), (5, 1), (6, 1), (7, 1)] := by kernel_rfl
theorem tp64 : tparts Try.prog 64 = some [(0, 1), (1, 1)] := by kernel_rfl
theorem tp78 : tparts Try.prog 78 = some [(0, 1), (1, 1)] := by kernel_rfl
theorem tp79 : tparts Try.prog 79 = some [(0, 2), (2, 2), (4, 2), (6, 2), (8, 2), (10, 2)] := by kernel_rfl
theorem tsl22 : tslice Try.prog 22 = some 5 := by kernel_rfl
theorem tsl57 : tslice Try.prog 57 = some 3 := by kernel_rfl
theorem tsl69 : tslice Try.prog 69 = some 22 := by kernel_rfl
theorem tsl70 : tslice Try.prog 70 = some 56 := by kernel_rfl
theorem tsl82 : tslice Try.prog 82 = some 23 := by kernel_rfl
theorem tsz21 : tsz Try.prog 21 = 1 := by kernel_rfl
theorem tsz22 : tsz Try.prog 22 = 1 := by kernel_rfl
theorem tsz23 : tsz Try.prog 23 = 1 := by kernel_rfl
theorem tsz3 : tsz Try.prog 3 = 1 := by kernel_rfl
theorem tsz42 : tsz Try.prog 42 = 2 := by kernel_rfl
theorem tsz44 : tsz Try.prog 44 = 7 := by kernel_rfl
theorem tsz46 : tsz Try.prog 46 = 4 := by kernel_rfl
theorem tsz5 : tsz Try.prog 5 = 1 := by kernel_rfl
theorem tsz56 : tsz Try.prog 56 = 8 := by kernel_rfl
theorem tsz57 : tsz Try.prog 57 = 1 := by kernel_rfl
theorem tsz64 : tsz Try.prog 64 = 2 := by kernel_rfl
theorem tsz78 : tsz Try.prog 78 = 2 := by kernel_rfl
theorem tu21 : (Try.prog.underlying 21).isSome = true := by kernel_rfl
theorem tu23 : (Try.prog.underlying 23).isSome = true := by kernel_rfl
theorem tu29 : (Try.prog.underlying 29).isSome = true := by kernel_rfl
theorem tu3 : (Try.prog.underlying 3).isSome = true := by kernel_rfl
theorem tu5 : (Try.prog.underlying 5).isSome = true := by kernel_rfl
theorem tz22 : tzero Try.prog 22 = some (.slice none 0 0) := by kernel_rfl
theorem tz23 : tzero Try.prog 23 = some (.int .u32 0) := by kernel_rfl
theorem tz3 : tzero Try.prog 3 = some (.int .i64 0) := by kernel_rfl
theorem tz44 : tzero Try.prog 44 = some (.agg #[.int .i64 0, .int .i64 0, .int .u32 0, .int .i64 0, .int .i64 0, .int .u32 0, .bool false]) := by kernel_rfl
theorem tz46 : tzero Try.prog 46 = some (.agg #[.int .u32 0, .int .i32 0, .int .u32 0, .int .u32 0]) := by kernel_rfl
theorem tz5 : tzero Try.prog 5 = some (.int .u8 0) := by kernel_rfl
theorem tz56 : tzero Try.prog 56 = some (.agg #[.int .i64 0, .int .i64 0, .int .u32 0, .int .u32 0, .int .u32 0, .int .u32 0, .int .u32 0, .int .u32 0]) := by kernel_rfl
theorem tz64 : tzero Try.prog 64 = some (.agg #[.slice none 0 0, .int .i64 0]) := by kernel_rfl
theorem tz78 : tzero Try.prog 78 = some (.agg #[.int .i64 0, .int .u32 0]) := by kernel_rfl
theorem tz79 : tzero Try.prog 79 = some (.agg #[.int .i64 0, .int .u32 0, .int .i64 0, .int .u32 0, .int .i64 0, .int .u32 0, .int .i64 0, .int .u32 0, .int .i64 0, .int .u32 0, .int .i64 0, .int .u32 0]) := by kernel_rfl
theorem real3 : Real Try.prog 3 := ⟨Try.f3, Try.func3, by kernel_rfl, by kernel_rfl⟩
theorem real4 : Real Try.prog 4 := ⟨Try.f4, Try.func4, by kernel_rfl, by kernel_rfl⟩
theorem real5 : Real Try.prog 5 := ⟨Try.f5, Try.func5, by kernel_rfl, by kernel_rfl⟩
theorem real6 : Real Try.prog 6 := ⟨Try.f6, Try.func6, by kernel_rfl, by kernel_rfl⟩
theorem real7 : Real Try.prog 7 := ⟨Try.f7, Try.func7, by kernel_rfl, by kernel_rfl⟩
theorem real8 : Real Try.prog 8 := ⟨Try.f8, Try.func8, by kernel_rfl, by kernel_rfl⟩
theorem real9 : Real Try.prog 9 := ⟨Try.f9, Try.func9, by kernel_rfl, by kernel_rfl⟩
theorem real10 : Real Try.prog 10 := ⟨Try.f10, Try.func10, by kernel_rfl, by kernel_rfl⟩
theorem real11 : Real Try.prog 11 := ⟨Try.f11, Try.func11, by kernel_rfl, by kernel_rfl⟩
theorem real12 : Real Try.prog 12 := ⟨Try.f12, Try.func12, by kernel_rfl, by kernel_rfl⟩
theorem real13 : Real Try.prog 13 := ⟨Try.f13, Try.func13, by kernel_rfl, by kernel_rfl⟩
theorem real14 : Real Try.prog 14 := ⟨Try.f14, Try.func14, by kernel_rfl, by kernel_rfl⟩
theorem real15 : Real Try.prog 15 := ⟨Try.f15, Try.func15, by kernel_rfl, by kernel_rfl⟩
theorem real16 : Real Try.prog 16 := ⟨Try.f16, Try.func16, by kernel_rfl, by kernel_rfl⟩
theorem real17 : Real Try.prog 17 := ⟨Try.f17, Try.func17, by kernel_rfl, by kernel_rfl⟩
theorem real18 : Real Try.prog 18 := ⟨Try.f18, Try.func18, by kernel_rfl, by kernel_rfl⟩
theorem real19 : Real Try.prog 19 := ⟨Try.f19, Try.func19, by kernel_rfl, by kernel_rfl⟩
theorem real20 : Real Try.prog 20 := ⟨Try.f20, Try.func20, by kernel_rfl, by kernel_rfl⟩
theorem real21 : Real Try.prog 21 := ⟨Try.f21, Try.func21, by kernel_rfl, by kernel_rfl⟩
theorem real22 : Real Try.prog 22 := ⟨Try.f22, Try.func22, by kernel_rfl, by kernel_rfl⟩
theorem real23 : Real Try.prog 23 := ⟨Try.f23, Try.func23, by kernel_rfl, by kernel_rfl⟩
theorem real24 : Real Try.prog 24 := ⟨Try.f24, Try.func24, by kernel_rfl, by kernel_rfl⟩
theorem real25 : Real Try.prog 25 := ⟨Try.f25, Try.func25, by kernel_rfl, by kernel_rfl⟩
theorem real26 : Real Try.prog 26 := ⟨Try.f26, Try.func26, by kernel_rfl, by kernel_rfl⟩
theorem real27 : Real Try.prog 27 := ⟨Try.f27, Try.func27, by kernel_rfl, by kernel_rfl⟩
theorem real28 : Real Try.prog 28 := ⟨Try.f28, Try.func28, by kernel_rfl, by kernel_rfl⟩
theorem real29 : Real Try.prog 29 := ⟨Try.f29, Try.func29, by kernel_rfl, by kernel_rfl⟩
theorem real30 : Real Try.prog 30 := ⟨Try.f30, Try.func30, by kernel_rfl, by kernel_rfl⟩
theorem real31 : Real Try.prog 31 := ⟨Try.f31, Try.func31, by kernel_rfl, by kernel_rfl⟩
theorem real32 : Real Try.prog 32 := ⟨Try.f32, Try.func32, by kernel_rfl, by kernel_rfl⟩
theorem real33 : Real Try.prog 33 := ⟨Try.f33, Try.func33, by kernel_rfl, by kernel_rfl⟩
theorem real34 : Real Try.prog 34 := ⟨Try.f34, Try.func34, by kernel_rfl, by kernel_rfl⟩
theorem real35 : Real Try.prog 35 := ⟨Try.f35, Try.func35, by kernel_rfl, by kernel_rfl⟩
theorem real36 : Real Try.prog 36 := ⟨Try.f36, Try.func36, by kernel_rfl, by kernel_rfl⟩
theorem real37 : Real Try.prog 37 := ⟨Try.f37, Try.func37, by kernel_rfl, by kernel_rfl⟩
theorem real38 : Real Try.prog 38 := ⟨Try.f38, Try.func38, by kernel_rfl, by kernel_rfl⟩
theorem real39 : Real Try.prog 39 := ⟨Try.f39, Try.func39, by kernel_rfl, by kernel_rfl⟩
theorem real40 : Real Try.prog 40 := ⟨Try.f40, Try.func40, by kernel_rfl, by kernel_rfl⟩
theorem real41 : Real Try.prog 41 := ⟨Try.f41, Try.func41, by kernel_rfl, by kernel_rfl⟩
theorem real42 : Real Try.prog 42 := ⟨Try.f42, Try.func42, by kernel_rfl, by kernel_rfl⟩
theorem real43 : Real Try.prog 43 := ⟨Try.f43, Try.func43, by kernel_rfl, by kernel_rfl⟩
theorem real44 : Real Try.prog 44 := ⟨Try.f44, Try.func44, by kernel_rfl, by kernel_rfl⟩
theorem real45 : Real Try.prog 45 := ⟨Try.f45, Try.func45, by kernel_rfl, by kernel_rfl⟩
theorem real46 : Real Try.prog 46 := ⟨Try.f46, Try.func46, by kernel_rfl, by kernel_rfl⟩
theorem real47 : Real Try.prog 47 := ⟨Try.f47, Try.func47, by kernel_rfl, by kernel_rfl⟩
theorem real48 : Real Try.prog 48 := ⟨Try.f48, Try.func48, by kernel_rfl, by kernel_rfl⟩
theorem real49 : Real Try.prog 49 := ⟨Try.f49, Try.func49, by kernel_rfl, by kernel_rfl⟩
theorem real50 : Real Try.prog 50 := ⟨Try.f50, Try.func50, by kernel_rfl, by kernel_rfl⟩
theorem real51 : Real Try.prog 51 := ⟨Try.f51, Try.func51, by kernel_rfl, by kernel_rfl⟩
theorem real52 : Real Try.prog 52 := ⟨Try.f52, Try.func52, by kernel_rfl, by kernel_rfl⟩
theorem real53 : Real Try.prog 53 := ⟨Try.f53, Try.func53, by kernel_rfl, by kernel_rfl⟩
theorem real54 : Real Try.prog 54 := ⟨Try.f54, Try.func54, by kernel_rfl, by kernel_rfl⟩
theorem real55 : Real Try.prog 55 := ⟨Try.f55, Try.func55, by kernel_rfl, by kernel_rfl⟩
theorem real56 : Real Try.prog 56 := ⟨Try.f56, Try.func56, by kernel_rfl, by kernel_rfl⟩
theorem real57 : Real Try.prog 57 := ⟨Try.f57, Try.func57, by kernel_rfl, by kernel_rfl⟩
theorem real58 : Real Try.prog 58 := ⟨Try.f58, Try.func58, by kernel_rfl, by kernel_rfl⟩
theorem real59 : Real Try.prog 59 := ⟨Try.f59, Try.func59, by kernel_rfl, by kernel_rfl⟩
theorem res3 : Try.f3.results.toList = [.tmp 6] := by kernel_rfl
theorem res4 : Try.f4.results.toList = [.tmp 4] := by kernel_rfl
theorem res5 : Try.f5.results.toList = [.tmp 10] := by kernel_rfl
theorem res6 : Try.f6.results.toList = [.tmp 4] := by kernel_rfl
theorem res7 : Try.f7.results.toList = [.tmp 6] := by kernel_rfl
theorem res8 : Try.f8.results.toList = [.tmp 6] := by kernel_rfl
theorem res9 : Try.f9.results.toList = [.tmp 6] := by kernel_rfl
theorem res10 : Try.f10.results.toList = [.tmp 6] := by kernel_rfl
theorem res11 : Try.f11.results.toList = [.tmp 6] := by kernel_rfl
theorem res12 : Try.f12.results.toList = [.tmp 12] := by kernel_rfl
theorem res13 : Try.f13.results.toList = [.tmp 6] := by kernel_rfl
theorem res14 : Try.f14.results.toList = [.tmp 0] := by kernel_rfl
theorem res15 : Try.f15.results.toList = [.tmp 2] := by kernel_rfl
theorem res16 : Try.f16.results.toList = [.tmp 4] := by kernel_rfl
theorem res17 : Try.f17.results.toList = [.tmp 6] := by kernel_rfl
theorem res18 : Try.f18.results.toList = [.tmp 6] := by kernel_rfl
theorem res19 : Try.f19.results.toList = [.tmp 4] := by kernel_rfl
theorem res20 : Try.f20.results.toList = [.tmp 4] := by kernel_rfl
theorem res21 : Try.f21.results.toList = [.tmp 4] := by kernel_rfl
theorem res22 : Try.f22.results.toList = [.tmp 4] := by kernel_rfl
theorem res23 : Try.f23.results.toList = [.tmp 4] := by kernel_rfl
theorem res24 : Try.f24.results.toList = [.tmp 6] := by kernel_rfl
theorem res25 : Try.f25.results.toList = [.tmp 6] := by kernel_rfl
theorem res26 : Try.f26.results.toList = [.tmp 6] := by kernel_rfl
theorem res27 : Try.f27.results.toList = [.tmp 6] := by kernel_rfl
theorem res28 : Try.f28.results.toList = [.tmp 8] := by kernel_rfl
theorem res29 : Try.f29.results.toList = [.tmp 8] := by kernel_rfl
theorem res30 : Try.f30.results.toList = [.tmp 2] := by kernel_rfl
theorem res31 : Try.f31.results.toList = [.tmp 4] := by kernel_rfl
theorem res32 : Try.f32.results.toList = [.tmp 0] := by kernel_rfl
theorem res33 : Try.f33.results.toList = [.cell 2 46] := by kernel_rfl
theorem res34 : Try.f34.results.toList = [.tmp 2] := by kernel_rfl
theorem res35 : Try.f35.results.toList = [.cell 2 46, .tmp 3] := by kernel_rfl
theorem res36 : Try.f36.results.toList = [.cell 2 46, .tmp 3] := by kernel_rfl
theorem res37 : Try.f37.results.toList = [.tmp 2] := by kernel_rfl
theorem res38 : Try.f38.results.toList = [.cell 2 46] := by kernel_rfl
theorem res39 : Try.f39.results.toList = [.tmp 0] := by kernel_rfl
theorem res40 : Try.f40.results.toList = [.tmp 2] := by kernel_rfl
theorem res41 : Try.f41.results.toList = [.cell 2 56, .tmp 3] := by kernel_rfl
theorem res42 : Try.f42.results.toList = [.cell 2 56] := by kernel_rfl
theorem res43 : Try.f43.results.toList = [.tmp 2] := by kernel_rfl
theorem res44 : Try.f44.results.toList = [.tmp 2] := by kernel_rfl
theorem res45 : Try.f45.results.toList = [.cell 2 56, .tmp 3] := by kernel_rfl
theorem res46 : Try.f46.results.toList = [.tmp 4, .tmp 5] := by kernel_rfl
theorem res47 : Try.f47.results.toList = [.tmp 4, .tmp 5] := by kernel_rfl
theorem res48 : Try.f48.results.toList = [.tmp 2] := by kernel_rfl
theorem res49 : Try.f49.results.toList = [.tmp 8] := by kernel_rfl
theorem res50 : Try.f50.results.toList = [.tmp 6] := by kernel_rfl
theorem res51 : Try.f51.results.toList = [.tmp 6] := by kernel_rfl
theorem res52 : Try.f52.results.toList = [.tmp 8] := by kernel_rfl
theorem res53 : Try.f53.results.toList = [.tmp 4] := by kernel_rfl
theorem res54 : Try.f54.results.toList = [.tmp 4] := by kernel_rfl
theorem res55 : Try.f55.results.toList = [.tmp 4] := by kernel_rfl
theorem res56 : Try.f56.results.toList = [.tmp 4] := by kernel_rfl
theorem res57 : Try.f57.results.toList = [.tmp 2] := by kernel_rfl
theorem res58 : Try.f58.results.toList = [.tmp 4] := by kernel_rfl
theorem res59 : Try.f59.results.toList = [.tmp 2] := by kernel_rfl
theorem mixed : Try.prog.follows .mixedOrders = true := by kernel_rfl
end Go.Proofs.Ytlcjhffnbodkoaa.Ae
