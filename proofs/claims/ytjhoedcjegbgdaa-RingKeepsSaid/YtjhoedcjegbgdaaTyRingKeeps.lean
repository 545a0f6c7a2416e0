/- Facts on the types of this translation, and that its functions are entered; closed facts, no condition. -/
import Derived.Test.YtjhoedcjegbgdaaAhRingKeeps
import Derived.Test.YtjhoedcjegbgdaaProg
import Derived.KernelRfl
namespace Go.Proofs.Ytjhoedcjegbgdaa.Ae
open Go
theorem eqm24 : ∀ (a : Addr), eqS Try.prog 24 (.pointer (some a)) (.pointer none) = some false := by intros; kernel_rfl
theorem eqm27 : ∀ (a : Addr) (l c m d : Nat), eqS Try.prog 27 (.slice (some a) l c) (.slice none m d) = some false := by intros; kernel_rfl
theorem eqm50 : ∀ (a : Addr), eqS Try.prog 50 (.pointer (some a)) (.pointer none) = some false := by intros; kernel_rfl
theorem eqm74 : ∀ (a : Addr) (l c m d : Nat), eqS Try.prog 74 (.slice (some a) l c) (.slice none m d) = some false := by intros; kernel_rfl
theorem eqn24 : ∀ (a : Addr), eqS Try.prog 24 (.pointer none) (.pointer (some a)) = some false := by intros; kernel_rfl
theorem eqn27 : ∀ (a : Addr) (l c m d : Nat), eqS Try.prog 27 (.slice none l c) (.slice (some a) m d) = some false := by intros; kernel_rfl
theorem eqn50 : ∀ (a : Addr), eqS Try.prog 50 (.pointer none) (.pointer (some a)) = some false := by intros; kernel_rfl
theorem eqn74 : ∀ (a : Addr) (l c m d : Nat), eqS Try.prog 74 (.slice none l c) (.slice (some a) m d) = some false := by intros; kernel_rfl
theorem eqs4 : ∀ (x0 y0 : Bool), eqS Try.prog 4 (.bool x0) (.bool y0) = some (x0 == y0) := by intros; kernel_rfl
theorem eqs70 : ∀ (x0 y0 : Int) (x1 y1 : Int) (x2 y2 : Int) (x3 y3 : Int), eqS Try.prog 70 (.agg #[.int .u32 x0, .int .i32 x1, .int .u32 x2, .int .u32 x3]) (.agg #[.int .u32 y0, .int .i32 y1, .int .u32 y2, .int .u32 y3]) = some (decide (x0 = y0) && (decide (x1 = y1) && (decide (x2 = y2) && (decide (x3 = y3) && true)))) := by intros; kernel_rfl
theorem eqz24 : eqS Try.prog 24 (.pointer none) (.pointer none) = some true := by kernel_rfl
theorem eqz27 : ∀ (l c m d : Nat), eqS Try.prog 27 (.slice none l c) (.slice none m d) = some true := by intros; kernel_rfl
theorem eqz50 : eqS Try.prog 50 (.pointer none) (.pointer none) = some true := by kernel_rfl
theorem eqz74 : ∀ (l c m d : Nat), eqS Try.prog 74 (.slice none l c) (.slice none m d) = some true := by intros; kernel_rfl
theorem tagg21 : tagg Try.prog 21 = some false := by kernel_rfl
theorem tagg24 : tagg Try.prog 24 = some false := by kernel_rfl
theorem tagg27 : tagg Try.prog 27 = some false := by kernel_rfl
theorem tagg3 : tagg Try.prog 3 = some false := by kernel_rfl
theorem tagg37 : tagg Try.prog 37 = some false := by kernel_rfl
theorem tagg40 : tagg Try.prog 40 = some false := by kernel_rfl
theorem tagg44 : tagg Try.prog 44 = some true := by kernel_rfl
theorem tagg49 : tagg Try.prog 49 = some false := by kernel_rfl
theorem tagg5 : tagg Try.prog 5 = some false := by kernel_rfl
theorem tagg57 : tagg Try.prog 57 = some true := by kernel_rfl
theorem tagg70 : tagg Try.prog 70 = some true := by kernel_rfl
theorem tagg74 : tagg Try.prog 74 = some false := by kernel_rfl
theorem tagg80 : tagg Try.prog 80 = some true := by kernel_rfl
theorem tby5 : tby Try.prog 5 = 1 := by kernel_rfl
theorem tby70 : tby Try.prog 70 = 16 := by kernel_rfl
theorem tf42_0 : tfield Try.prog 42 0 = some (0, 40) := by kernel_rfl
theorem tf44_0 : tfield Try.prog 44 0 = some (0, 3) := by kernel_rfl
theorem tf44_1 : tfield Try.prog 44 1 = some (1, 3) := by kernel_rfl
theorem tf44_2 : tfield Try.prog 44 2 = some (2, 3) := by kernel_rfl
theorem tf44_3 : tfield Try.prog 44 3 = some (3, 3) := by kernel_rfl
theorem tf57_0 : tfield Try.prog 57 0 = some (0, 3) := by kernel_rfl
theorem tf57_1 : tfield Try.prog 57 1 = some (1, 3) := by kernel_rfl
theorem tf57_2 : tfield Try.prog 57 2 = some (2, 49) := by kernel_rfl
theorem tf57_3 : tfield Try.prog 57 3 = some (3, 49) := by kernel_rfl
theorem tf57_4 : tfield Try.prog 57 4 = some (4, 49) := by kernel_rfl
theorem tf57_5 : tfield Try.prog 57 5 = some (5, 49) := by kernel_rfl
theorem tf57_6 : tfield Try.prog 57 6 = some (6, 49) := by kernel_rfl
theorem tf57_7 : tfield Try.prog 57 7 = some (7, 49) := by kernel_rfl
theorem tf70_0 : tfield Try.prog 70 0 = some (0, 49) := by kernel_rfl
theorem tf70_1 : tfield Try.prog 70 1 = some (1, 21) := by kernel_rfl
theorem tf70_2 : tfield Try.prog 70 2 = some (2, 49) := by kernel_rfl
theorem tf70_3 : tfield Try.prog 70 3 = some (3, 49) := by kernel_rfl
theorem tf80_0 : tfield Try.prog 80 0 = some (0, 3) := by kernel_rfl
theorem tf80_1 : tfield Try.prog 80 1 = some (1, 3) := by kernel_rfl
theorem tf80_2 : tfield Try.prog 80 2 = some (2, 3) := by kernel_rfl
theorem tf80_3 : tfield Try.prog 80 3 = some (3, 27) := by kernel_rfl
theorem tf82_0 : tfield Try.prog 82 0 = some (0, 37) := by kernel_rfl
theorem tf82_1 : tfield Try.prog 82 1 = some (1, 3) := by kernel_rfl
theorem tf82_2 : tfield Try.prog 82 2 = some (2, 3) := by kernel_rfl
theorem tf82_3 : tfield Try.prog 82 3 = some (3, 3) := by kernel_rfl
theorem tf82_4 : tfield Try.prog 82 4 = some (4, 3) := by kernel_rfl
theorem tf82_5 : tfield Try.prog 82 5 = some (5, 49) := by kernel_rfl
theorem tf82_6 : tfield Try.prog 82 6 = some (6, 49) := by kernel_rfl
theorem tf82_7 : tfield Try.prog 82 7 = some (7, 74) := by kernel_rfl
theorem tf86_0 : tfield Try.prog 86 0 = some (0, 40) := by kernel_rfl
theorem tf96_0 : tfield Try.prog 96 0 = some (0, 24) := by kernel_rfl
theorem tf96_1 : tfield Try.prog 96 1 = some (1, 3) := by kernel_rfl
theorem tf96_2 : tfield Try.prog 96 2 = some (2, 3) := by kernel_rfl
theorem tf96_3 : tfield Try.prog 96 3 = some (3, 3) := by kernel_rfl
theorem tf96_4 : tfield Try.prog 96 4 = some (4, 3) := by kernel_rfl
theorem tf96_5 : tfield Try.prog 96 5 = some (5, 49) := by kernel_rfl
theorem tf96_6 : tfield Try.prog 96 6 = some (6, 49) := by kernel_rfl
theorem tf96_7 : tfield Try.prog 96 7 = some (7, 74) := by kernel_rfl
theorem ti21 : tint Try.prog 21 = some .i32 := by kernel_rfl
theorem ti3 : tint Try.prog 3 = some .i64 := by kernel_rfl
theorem ti49 : tint Try.prog 49 = some .u32 := by kernel_rfl
theorem ti5 : tint Try.prog 5 = some .u8 := by kernel_rfl
theorem ti54 : tint Try.prog 54 = some .u64 := by kernel_rfl
theorem tok21 : tok Try.prog 21 = true := by kernel_rfl
theorem tok24 : tok Try.prog 24 = true := by kernel_rfl
theorem tok27 : tok Try.prog 27 = true := by kernel_rfl
theorem tok3 : tok Try.prog 3 = true := by kernel_rfl
theorem tok37 : tok Try.prog 37 = true := by kernel_rfl
theorem tok40 : tok Try.prog 40 = true := by kernel_rfl
theorem tok42 : tok Try.prog 42 = true := by kernel_rfl
theorem tok44 : tok Try.prog 44 = true := by kernel_rfl
theorem tok49 : tok Try.prog 49 = true := by kernel_rfl
theorem tok5 : tok Try.prog 5 = true := by kernel_rfl
theorem tok57 : tok Try.prog 57 = true := by kernel_rfl
theorem tok70 : tok Try.prog 70 = true := by kernel_rfl
theorem tok74 : tok Try.prog 74 = true := by kernel_rfl
theorem tok80 : tok Try.prog 80 = true := by kernel_rfl
theorem tok82 : tok Try.prog 82 = true := by kernel_rfl
theorem tok86 : tok Try.prog 86 = true := by kernel_rfl
theorem tok96 : tok Try.prog 96 = true := by kernel_rfl
theorem tp42 : tparts Try.prog 42 = some [(0, 1)] := by kernel_rfl
theorem tp57 : tparts Try.prog 57 = some [(0, 1), (1, 1), (2, 1), (3, 1), (4, 1), (5, 1), (6, 1), (7, 1)] := by kernel_rfl
theorem tp70 : tparts Try.prog 70 = some [(0, 1), (1, 1), (2, 1), (3, 1)] := by kernel_rfl
theorem tp82 : tparts Try.prog 82 = some [(0, 1), (1, 1), (2, 1), (3, 1), (4, 1), (5, 1), (6, 1), (7, 1)] := by kernel_rfl
theorem tp86 : tparts Try.prog 86 = some [(0, 1)] := by kernel_rfl
theorem tp96 : tparts Try.prog 96 = some [(0, 1), (1, 1), (2, 1), (3, 1), (4, 1), (5, 1), (6, 1), (7, 1)] := by kernel_rfl
theorem tsl27 : tslice Try.prog 27 = some 5 := by kernel_rfl
theorem tsl36 : tslice Try.prog 36 = some 44 := by kernel_rfl
theorem tsl40 : tslice Try.prog 40 = some 27 := by kernel_rfl
theorem tsl48 : tslice Try.prog 48 = some 3 := by kernel_rfl
theorem tsl67 : tslice Try.prog 67 = some 49 := by kernel_rfl
theorem tsl74 : tslice Try.prog 74 = some 70 := by kernel_rfl
theorem tsl78 : tslice Try.prog 78 = some 80 := by kernel_rfl
theorem tsz21 : tsz Try.prog 21 = 1 := by kernel_rfl
theorem tsz24 : tsz Try.prog 24 = 1 := by kernel_rfl
theorem tsz27 : tsz Try.prog 27 = 1 := by kernel_rfl
theorem tsz3 : tsz Try.prog 3 = 1 := by kernel_rfl
theorem tsz37 : tsz Try.prog 37 = 1 := by kernel_rfl
theorem tsz40 : tsz Try.prog 40 = 1 := by kernel_rfl
theorem tsz42 : tsz Try.prog 42 = 1 := by kernel_rfl
theorem tsz44 : tsz Try.prog 44 = 4 := by kernel_rfl
theorem tsz49 : tsz Try.prog 49 = 1 := by kernel_rfl
theorem tsz5 : tsz Try.prog 5 = 1 := by kernel_rfl
theorem tsz57 : tsz Try.prog 57 = 8 := by kernel_rfl
theorem tsz70 : tsz Try.prog 70 = 4 := by kernel_rfl
theorem tsz74 : tsz Try.prog 74 = 1 := by kernel_rfl
theorem tsz80 : tsz Try.prog 80 = 4 := by kernel_rfl
theorem tsz82 : tsz Try.prog 82 = 8 := by kernel_rfl
theorem tsz86 : tsz Try.prog 86 = 1 := by kernel_rfl
theorem tsz96 : tsz Try.prog 96 = 8 := by kernel_rfl
theorem tu21 : (Try.prog.underlying 21).isSome = true := by kernel_rfl
theorem tu3 : (Try.prog.underlying 3).isSome = true := by kernel_rfl
theorem tu49 : (Try.prog.underlying 49).isSome = true := by kernel_rfl
theorem tu5 : (Try.prog.underlying 5).isSome = true := by kernel_rfl
theorem tz27 : tzero Try.prog 27 = some (.slice none 0 0) := by kernel_rfl
theorem tz42 : tzero Try.prog 42 = some (.agg #[.slice none 0 0]) := by kernel_rfl
theorem tz44 : tzero Try.prog 44 = some (.agg #[.int .i64 0, .int .i64 0, .int .i64 0, .int .i64 0]) := by kernel_rfl
theorem tz49 : tzero Try.prog 49 = some (.int .u32 0) := by kernel_rfl
theorem tz5 : tzero Try.prog 5 = some (.int .u8 0) := by kernel_rfl
theorem tz57 : tzero Try.prog 57 = some (.agg #[.int .i64 0, .int .i64 0, .int .u32 0, .int .u32 0, .int .u32 0, .int .u32 0, .int .u32 0, .int .u32 0]) := by kernel_rfl
theorem tz70 : tzero Try.prog 70 = some (.agg #[.int .u32 0, .int .i32 0, .int .u32 0, .int .u32 0]) := by kernel_rfl
theorem tz80 : tzero Try.prog 80 = some (.agg #[.int .i64 0, .int .i64 0, .int .i64 0, .slice none 0 0]) := by kernel_rfl
theorem tz82 : tzero Try.prog 82 = some (.agg #[.pointer none, .int .i64 0, .int .i64 0, .int .i64 0, .int .i64 0, .int .u32 0, .int .u32 0, .slice none 0 0]) := by kernel_rfl
theorem tz86 : tzero Try.prog 86 = some (.agg #[.slice none 0 0]) := by kernel_rfl
theorem tz96 : tzero Try.prog 96 = some (.agg #[.pointer none, .int .i64 0, .int .i64 0, .int .i64 0, .int .i64 0, .int .u32 0, .int .u32 0, .slice none 0 0]) := by kernel_rfl
theorem real13 : Real Try.prog 13 := ⟨Try.f13, Try.func13, by kernel_rfl, by kernel_rfl⟩
theorem real14 : Real Try.prog 14 := ⟨Try.f14, Try.func14, by kernel_rfl, by kernel_rfl⟩
theorem real15 : Real Try.prog 15 := ⟨Try.f15, Try.func15, by kernel_rfl, by kernel_rfl⟩
theorem real17 : Real Try.prog 17 := ⟨Try.f17, Try.func17, by kernel_rfl, by kernel_rfl⟩
theorem real21 : Real Try.prog 21 := ⟨Try.f21, Try.func21, by kernel_rfl, by kernel_rfl⟩
theorem real28 : Real Try.prog 28 := ⟨Try.f28, Try.func28, by kernel_rfl, by kernel_rfl⟩
theorem real29 : Real Try.prog 29 := ⟨Try.f29, Try.func29, by kernel_rfl, by kernel_rfl⟩
theorem real30 : Real Try.prog 30 := ⟨Try.f30, Try.func30, by kernel_rfl, by kernel_rfl⟩
theorem real32 : Real Try.prog 32 := ⟨Try.f32, Try.func32, by kernel_rfl, by kernel_rfl⟩
theorem real38 : Real Try.prog 38 := ⟨Try.f38, Try.func38, by kernel_rfl, by kernel_rfl⟩
theorem real40 : Real Try.prog 40 := ⟨Try.f40, Try.func40, by kernel_rfl, by kernel_rfl⟩
theorem real41 : Real Try.prog 41 := ⟨Try.f41, Try.func41, by kernel_rfl, by kernel_rfl⟩
theorem real42 : Real Try.prog 42 := ⟨Try.f42, Try.func42, by kernel_rfl, by kernel_rfl⟩
theorem real43 : Real Try.prog 43 := ⟨Try.f43, Try.func43, by kernel_rfl, by kernel_rfl⟩
theorem real44 : Real Try.prog 44 := ⟨Try.f44, Try.func44, by kernel_rfl, by kernel_rfl⟩
theorem real52 : Real Try.prog 52 := ⟨Try.f52, Try.func52, by kernel_rfl, by kernel_rfl⟩
theorem real53 : Real Try.prog 53 := ⟨Try.f53, Try.func53, by kernel_rfl, by kernel_rfl⟩
theorem real55 : Real Try.prog 55 := ⟨Try.f55, Try.func55, by kernel_rfl, by kernel_rfl⟩
theorem real56 : Real Try.prog 56 := ⟨Try.f56, Try.func56, by kernel_rfl, by kernel_rfl⟩
theorem real58 : Real Try.prog 58 := ⟨Try.f58, Try.func58, by kernel_rfl, by kernel_rfl⟩
theorem real59 : Real Try.prog 59 := ⟨Try.f59, Try.func59, by kernel_rfl, by kernel_rfl⟩
theorem real60 : Real Try.prog 60 := ⟨Try.f60, Try.func60, by kernel_rfl, by kernel_rfl⟩
theorem real61 : Real Try.prog 61 := ⟨Try.f61, Try.func61, by kernel_rfl, by kernel_rfl⟩
theorem real62 : Real Try.prog 62 := ⟨Try.f62, Try.func62, by kernel_rfl, by kernel_rfl⟩
theorem real63 : Real Try.prog 63 := ⟨Try.f63, Try.func63, by kernel_rfl, by kernel_rfl⟩
theorem real64 : Real Try.prog 64 := ⟨Try.f64, Try.func64, by kernel_rfl, by kernel_rfl⟩
theorem real65 : Real Try.prog 65 := ⟨Try.f65, Try.func65, by kernel_rfl, by kernel_rfl⟩
theorem real66 : Real Try.prog 66 := ⟨Try.f66, Try.func66, by kernel_rfl, by kernel_rfl⟩
theorem real74 : Real Try.prog 74 := ⟨Try.f74, Try.func74, by kernel_rfl, by kernel_rfl⟩
theorem real75 : Real Try.prog 75 := ⟨Try.f75, Try.func75, by kernel_rfl, by kernel_rfl⟩
theorem real76 : Real Try.prog 76 := ⟨Try.f76, Try.func76, by kernel_rfl, by kernel_rfl⟩
theorem real77 : Real Try.prog 77 := ⟨Try.f77, Try.func77, by kernel_rfl, by kernel_rfl⟩
theorem real80 : Real Try.prog 80 := ⟨Try.f80, Try.func80, by kernel_rfl, by kernel_rfl⟩
theorem real81 : Real Try.prog 81 := ⟨Try.f81, Try.func81, by kernel_rfl, by kernel_rfl⟩
theorem real82 : Real Try.prog 82 := ⟨Try.f82, Try.func82, by kernel_rfl, by kernel_rfl⟩
theorem res30 : Try.f30.results.toList = [.tmp 4, .tmp 5, .tmp 6, .tmp 7] := by kernel_rfl
theorem res42 : Try.f42.results.toList = [.cell 2 70, .tmp 3] := by kernel_rfl
theorem mixed : Try.prog.follows .mixedOrders = true := by kernel_rfl
end Go.Proofs.Ytjhoedcjegbgdaa.Ae
