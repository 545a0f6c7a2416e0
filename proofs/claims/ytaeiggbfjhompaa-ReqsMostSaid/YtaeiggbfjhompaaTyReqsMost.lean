/- Facts on the types of this translation, and that its functions are entered; closed facts, no condition. -/
import Derived.Test.YtaeiggbfjhompaaAhReqsMost
import Derived.Test.YtaeiggbfjhompaaProg
import Derived.KernelRfl
namespace Go.Proofs.Ytaeiggbfjhompaa.Ae
open Go
theorem eqm43 : ∀ (a : Nat), eqS Try.prog 43 (.map (some a)) (.map none) = some false := by intros; kernel_rfl
theorem eqm62 : ∀ (a : Nat), eqS Try.prog 62 (.map (some a)) (.map none) = some false := by intros; kernel_rfl
theorem eqs4 : ∀ (x0 y0 : Bool), eqS Try.prog 4 (.bool x0) (.bool y0) = some (x0 == y0) := by intros; kernel_rfl
theorem eqs48 : ∀ (x0 y0 : Int) (x1 y1 : Int), eqS Try.prog 48 (.agg #[.int .i64 x0, .int .i64 x1]) (.agg #[.int .i64 y0, .int .i64 y1]) = some (decide (x0 = y0) && (decide (x1 = y1) && true)) := by intros; kernel_rfl
theorem eqs51 : ∀ (x0 y0 : Int) (x1 y1 : Int) (x2 y2 : Int) (x3 y3 : Int) (x4 y4 : Int) (x5 y5 : Int) (x6 y6 : Int) (x7 y7 : Int), eqS Try.prog 51 (.agg #[.int .i64 x0, .int .i64 x1, .int .u32 x2, .int .u32 x3, .int .u32 x4, .int .u32 x5, .int .u32 x6, .int .u32 x7]) (.agg #[.int .i64 y0, .int .i64 y1, .int .u32 y2, .int .u32 y3, .int .u32 y4, .int .u32 y5, .int .u32 y6, .int .u32 y7]) = some (decide (x0 = y0) && (decide (x1 = y1) && (decide (x2 = y2) && (decide (x3 = y3) && (decide (x4 = y4) && (decide (x5 = y5) && (decide (x6 = y6) && (decide (x7 = y7) && true)))))))) := by intros; kernel_rfl
theorem eqs67 : ∀ (x0 y0 : Int) (x1 y1 : Int), eqS Try.prog 67 (.agg #[.int .i64 x0, .int .i64 x1]) (.agg #[.int .i64 y0, .int .i64 y1]) = some (decide (x0 = y0) && (decide (x1 = y1) && true)) := by intros; kernel_rfl
theorem eqs71 : ∀ (x0 y0 : Int) (x1 y1 : Int), eqS Try.prog 71 (.agg #[.int .i64 x0, .int .i64 x1]) (.agg #[.int .i64 y0, .int .i64 y1]) = some (decide (x0 = y0) && (decide (x1 = y1) && true)) := by intros; kernel_rfl
theorem eqz43 : eqS Try.prog 43 (.map none) (.map none) = some true := by kernel_rfl
theorem eqz62 : eqS Try.prog 62 (.map none) (.map none) = some true := by kernel_rfl
theorem tagg103 : tagg Try.prog 103 = some true := by kernel_rfl
theorem tagg108 : tagg Try.prog 108 = some true := by kernel_rfl
theorem tagg132 : tagg Try.prog 132 = some true := by kernel_rfl
theorem tagg153 : tagg Try.prog 153 = some false := by kernel_rfl
theorem tagg24 : tagg Try.prog 24 = some false := by kernel_rfl
theorem tagg27 : tagg Try.prog 27 = some false := by kernel_rfl
theorem tagg3 : tagg Try.prog 3 = some false := by kernel_rfl
theorem tagg31 : tagg Try.prog 31 = some true := by kernel_rfl
theorem tagg38 : tagg Try.prog 38 = some false := by kernel_rfl
theorem tagg4 : tagg Try.prog 4 = some false := by kernel_rfl
theorem tagg43 : tagg Try.prog 43 = some false := by kernel_rfl
theorem tagg48 : tagg Try.prog 48 = some true := by kernel_rfl
theorem tagg49 : tagg Try.prog 49 = some false := by kernel_rfl
theorem tagg51 : tagg Try.prog 51 = some true := by kernel_rfl
theorem tagg53 : tagg Try.prog 53 = some true := by kernel_rfl
theorem tagg62 : tagg Try.prog 62 = some false := by kernel_rfl
theorem tagg65 : tagg Try.prog 65 = some false := by kernel_rfl
theorem tagg67 : tagg Try.prog 67 = some true := by kernel_rfl
theorem tagg71 : tagg Try.prog 71 = some true := by kernel_rfl
theorem tagg78 : tagg Try.prog 78 = some false := by kernel_rfl
theorem tagg88 : tagg Try.prog 88 = some true := by kernel_rfl
theorem tagg99 : tagg Try.prog 99 = some false := by kernel_rfl
theorem tby3 : tby Try.prog 3 = 8 := by kernel_rfl
theorem tf101_0 : tfield Try.prog 101 0 = some (0, 99) := by kernel_rfl
theorem tf103_0 : tfield Try.prog 103 0 = some (0, 3) := by kernel_rfl
theorem tf103_1 : tfield Try.prog 103 1 = some (1, 3) := by kernel_rfl
theorem tf103_2 : tfield Try.prog 103 2 = some (2, 3) := by kernel_rfl
theorem tf103_3 : tfield Try.prog 103 3 = some (3, 3) := by kernel_rfl
theorem tf103_4 : tfield Try.prog 103 4 = some (4, 3) := by kernel_rfl
theorem tf108_0 : tfield Try.prog 108 0 = some (0, 3) := by kernel_rfl
theorem tf108_1 : tfield Try.prog 108 1 = some (1, 3) := by kernel_rfl
theorem tf111_0 : tfield Try.prog 111 0 = some (0, 3) := by kernel_rfl
theorem tf111_1 : tfield Try.prog 111 1 = some (1, 3) := by kernel_rfl
theorem tf132_0 : tfield Try.prog 132 0 = some (0, 67) := by kernel_rfl
theorem tf132_1 : tfield Try.prog 132 1 = some (2, 71) := by kernel_rfl
theorem tf26_0 : tfield Try.prog 26 0 = some (0, 24) := by kernel_rfl
theorem tf29_0 : tfield Try.prog 29 0 = some (0, 27) := by kernel_rfl
theorem tf31_0 : tfield Try.prog 31 0 = some (0, 3) := by kernel_rfl
theorem tf31_1 : tfield Try.prog 31 1 = some (1, 3) := by kernel_rfl
theorem tf31_2 : tfield Try.prog 31 2 = some (2, 3) := by kernel_rfl
theorem tf45_0 : tfield Try.prog 45 0 = some (0, 43) := by kernel_rfl
theorem tf48_0 : tfield Try.prog 48 0 = some (0, 3) := by kernel_rfl
theorem tf48_1 : tfield Try.prog 48 1 = some (1, 3) := by kernel_rfl
theorem tf51_0 : tfield Try.prog 51 0 = some (0, 3) := by kernel_rfl
theorem tf51_1 : tfield Try.prog 51 1 = some (1, 3) := by kernel_rfl
theorem tf51_2 : tfield Try.prog 51 2 = some (2, 49) := by kernel_rfl
theorem tf51_3 : tfield Try.prog 51 3 = some (3, 49) := by kernel_rfl
theorem tf51_4 : tfield Try.prog 51 4 = some (4, 49) := by kernel_rfl
theorem tf51_5 : tfield Try.prog 51 5 = some (5, 49) := by kernel_rfl
theorem tf51_6 : tfield Try.prog 51 6 = some (6, 49) := by kernel_rfl
theorem tf51_7 : tfield Try.prog 51 7 = some (7, 49) := by kernel_rfl
theorem tf53_0 : tfield Try.prog 53 0 = some (0, 48) := by kernel_rfl
theorem tf53_1 : tfield Try.prog 53 1 = some (2, 51) := by kernel_rfl
theorem tf53_2 : tfield Try.prog 53 2 = some (10, 3) := by kernel_rfl
theorem tf53_3 : tfield Try.prog 53 3 = some (11, 4) := by kernel_rfl
theorem tf53_4 : tfield Try.prog 53 4 = some (12, 4) := by kernel_rfl
theorem tf64_0 : tfield Try.prog 64 0 = some (0, 62) := by kernel_rfl
theorem tf67_0 : tfield Try.prog 67 0 = some (0, 3) := by kernel_rfl
theorem tf67_1 : tfield Try.prog 67 1 = some (1, 3) := by kernel_rfl
theorem tf71_0 : tfield Try.prog 71 0 = some (0, 3) := by kernel_rfl
theorem tf71_1 : tfield Try.prog 71 1 = some (1, 3) := by kernel_rfl
theorem tf80_0 : tfield Try.prog 80 0 = some (0, 78) := by kernel_rfl
theorem tf83_0 : tfield Try.prog 83 0 = some (0, 38) := by kernel_rfl
theorem tf83_1 : tfield Try.prog 83 1 = some (1, 3) := by kernel_rfl
theorem tf85_0 : tfield Try.prog 85 0 = some (0, 3) := by kernel_rfl
theorem tf85_1 : tfield Try.prog 85 1 = some (1, 3) := by kernel_rfl
theorem tf85_2 : tfield Try.prog 85 2 = some (2, 3) := by kernel_rfl
theorem tf85_3 : tfield Try.prog 85 3 = some (3, 3) := by kernel_rfl
theorem tf85_4 : tfield Try.prog 85 4 = some (4, 4) := by kernel_rfl
theorem tf88_0 : tfield Try.prog 88 0 = some (0, 48) := by kernel_rfl
theorem tf88_1 : tfield Try.prog 88 1 = some (2, 51) := by kernel_rfl
theorem tf88_2 : tfield Try.prog 88 2 = some (10, 3) := by kernel_rfl
theorem tf88_3 : tfield Try.prog 88 3 = some (11, 4) := by kernel_rfl
theorem tf88_4 : tfield Try.prog 88 4 = some (12, 4) := by kernel_rfl
theorem ti137 : tint Try.prog 137 = some .u64 := by kernel_rfl
theorem ti153 : tint Try.prog 153 = some .u64 := by kernel_rfl
theorem ti3 : tint Try.prog 3 = some .i64 := by kernel_rfl
theorem ti49 : tint Try.prog 49 = some .u32 := by kernel_rfl
theorem ti5 : tint Try.prog 5 = some .u8 := by kernel_rfl
theorem tok101 : tok Try.prog 101 = true := by kernel_rfl
theorem tok103 : tok Try.prog 103 = true := by kernel_rfl
theorem tok108 : tok Try.prog 108 = true := by kernel_rfl
theorem tok111 : tok Try.prog 111 = true := by kernel_rfl
theorem tok132 : tok Try.prog 132 = true := by kernel_rfl
theorem tok153 : tok Try.prog 153 = true := by kernel_rfl
theorem tok24 : tok Try.prog 24 = true := by kernel_rfl
theorem tok26 : tok Try.prog 26 = true := by kernel_rfl
theorem tok27 : tok Try.prog 27 = true := by kernel_rfl
theorem tok29 : tok Try.prog 29 = true := by kernel_rfl
theorem tok3 : tok Try.prog 3 = true := by kernel_rfl
theorem tok31 : tok Try.prog 31 = true := by kernel_rfl
theorem tok38 : tok Try.prog 38 = true := by kernel_rfl
theorem tok4 : tok Try.prog 4 = true := by kernel_rfl
theorem tok43 : tok Try.prog 43 = true := by kernel_rfl
theorem tok45 : tok Try.prog 45 = true := by kernel_rfl
theorem tok48 : tok Try.prog 48 = true := by kernel_rfl
theorem tok49 : tok Try.prog 49 = true := by kernel_rfl
theorem tok51 : tok Try.prog 51 = true := by kernel_rfl
theorem tok53 : tok Try.prog 53 = true := by kernel_rfl
theorem tok62 : tok Try.prog 62 = true := by kernel_rfl
theorem tok64 : tok Try.prog 64 = true := by kernel_rfl
theorem tok65 : tok Try.prog 65 = true := by kernel_rfl
theorem tok67 : tok Try.prog 67 = true := by kernel_rfl
theorem tok71 : tok Try.prog 71 = true := by kernel_rfl
theorem tok78 : tok Try.prog 78 = true := by kernel_rfl
theorem tok80 : tok Try.prog 80 = true := by kernel_rfl
theorem tok83 : tok Try.prog 83 = true := by kernel_rfl
theorem tok85 : tok Try.prog 85 = true := by kernel_rfl
theorem tok88 : tok Try.prog 88 = true := by kernel_rfl
theorem tok99 : tok Try.prog 99 = true := by kernel_rfl
theorem tp108 : tparts Try.prog 108 = some [(0, 1), (1, 1)] := by kernel_rfl
theorem tp111 : tparts Try.prog 111 = some [(0, 1), (1, 1)] := by kernel_rfl
theorem tp132 : tparts Try.prog 132 = some [(0, 2), (2, 2)] := by kernel_rfl
theorem tp48 : tparts Try.prog 48 = some [(0, 1), (1, 1)] := by kernel_rfl
theorem tp51 : tparts Try.prog 51 = some [(0, 1), (1, 1), (2, 1), (3, 1), (4, 1), (5, 1), (6, 1), (7, 1)] := by kernel_rfl
theorem tp53 : tparts Try.prog 53 = some [(0, 2), (2, 8), (10, 1), (11, 1), (12, 1)] := by kernel_rfl
theorem tp67 : tparts Try.prog 67 = some [(0, 1), (1, 1)] := by kernel_rfl
theorem tp71 : tparts Try.prog 71 = some [(0, 1), (1, 1)] := by kernel_rfl
theorem tp83 : tparts Try.prog 83 = some [(0, 1), (1, 1)] := by kernel_rfl
theorem tp88 : tparts Try.prog 88 = some [(0, 2), (2, 8), (10, 1), (11, 1), (12, 1)] := by kernel_rfl
theorem tsl22 : tslice Try.prog 22 = some 31 := by kernel_rfl
theorem tsl24 : tslice Try.prog 24 = some 108 := by kernel_rfl
theorem tsl27 : tslice Try.prog 27 = some 111 := by kernel_rfl
theorem tsl38 : tslice Try.prog 38 = some 3 := by kernel_rfl
theorem tsl57 : tslice Try.prog 57 = some 53 := by kernel_rfl
theorem tsl65 : tslice Try.prog 65 = some 67 := by kernel_rfl
theorem tsl77 : tslice Try.prog 77 = some 85 := by kernel_rfl
theorem tsl78 : tslice Try.prog 78 = some 88 := by kernel_rfl
theorem tsl97 : tslice Try.prog 97 = some 103 := by kernel_rfl
theorem tsl98 : tslice Try.prog 98 = some 49 := by kernel_rfl
theorem tsl99 : tslice Try.prog 99 = some 132 := by kernel_rfl
theorem tsz101 : tsz Try.prog 101 = 1 := by kernel_rfl
theorem tsz103 : tsz Try.prog 103 = 5 := by kernel_rfl
theorem tsz108 : tsz Try.prog 108 = 2 := by kernel_rfl
theorem tsz111 : tsz Try.prog 111 = 2 := by kernel_rfl
theorem tsz132 : tsz Try.prog 132 = 4 := by kernel_rfl
theorem tsz153 : tsz Try.prog 153 = 1 := by kernel_rfl
theorem tsz24 : tsz Try.prog 24 = 1 := by kernel_rfl
theorem tsz26 : tsz Try.prog 26 = 1 := by kernel_rfl
theorem tsz27 : tsz Try.prog 27 = 1 := by kernel_rfl
theorem tsz29 : tsz Try.prog 29 = 1 := by kernel_rfl
theorem tsz3 : tsz Try.prog 3 = 1 := by kernel_rfl
theorem tsz31 : tsz Try.prog 31 = 3 := by kernel_rfl
theorem tsz38 : tsz Try.prog 38 = 1 := by kernel_rfl
theorem tsz4 : tsz Try.prog 4 = 1 := by kernel_rfl
theorem tsz43 : tsz Try.prog 43 = 1 := by kernel_rfl
theorem tsz45 : tsz Try.prog 45 = 1 := by kernel_rfl
theorem tsz48 : tsz Try.prog 48 = 2 := by kernel_rfl
theorem tsz49 : tsz Try.prog 49 = 1 := by kernel_rfl
theorem tsz51 : tsz Try.prog 51 = 8 := by kernel_rfl
theorem tsz53 : tsz Try.prog 53 = 13 := by kernel_rfl
theorem tsz62 : tsz Try.prog 62 = 1 := by kernel_rfl
theorem tsz64 : tsz Try.prog 64 = 1 := by kernel_rfl
theorem tsz65 : tsz Try.prog 65 = 1 := by kernel_rfl
theorem tsz67 : tsz Try.prog 67 = 2 := by kernel_rfl
theorem tsz71 : tsz Try.prog 71 = 2 := by kernel_rfl
theorem tsz78 : tsz Try.prog 78 = 1 := by kernel_rfl
theorem tsz80 : tsz Try.prog 80 = 1 := by kernel_rfl
theorem tsz83 : tsz Try.prog 83 = 2 := by kernel_rfl
theorem tsz85 : tsz Try.prog 85 = 5 := by kernel_rfl
theorem tsz88 : tsz Try.prog 88 = 13 := by kernel_rfl
theorem tsz99 : tsz Try.prog 99 = 1 := by kernel_rfl
theorem tu137 : (Try.prog.underlying 137).isSome = true := by kernel_rfl
theorem tu150 : (Try.prog.underlying 150).isSome = true := by kernel_rfl
theorem tu3 : (Try.prog.underlying 3).isSome = true := by kernel_rfl
theorem tu49 : (Try.prog.underlying 49).isSome = true := by kernel_rfl
theorem tu5 : (Try.prog.underlying 5).isSome = true := by kernel_rfl
theorem tz101 : tzero Try.prog 101 = some (.agg #[.slice none 0 0]) := by kernel_rfl
theorem tz103 : tzero Try.prog 103 = some (.agg #[.int .i64 0, .int .i64 0, .int .i64 0, .int .i64 0, .int .i64 0]) := by kernel_rfl
theorem tz108 : tzero Try.prog 108 = some (.agg #[.int .i64 0, .int .i64 0]) := by kernel_rfl
theorem tz111 : tzero Try.prog 111 = some (.agg #[.int .i64 0, .int .i64 0]) := by kernel_rfl
theorem tz132 : tzero Try.prog 132 = some (.agg #[.int .i64 0, .int .i64 0, .int .i64 0, .int .i64 0]) := by kernel_rfl
theorem tz153 : tzero Try.prog 153 = some (.int .u64 0) := by kernel_rfl
theorem tz26 : tzero Try.prog 26 = some (.agg #[.slice none 0 0]) := by kernel_rfl
theorem tz29 : tzero Try.prog 29 = some (.agg #[.slice none 0 0]) := by kernel_rfl
theorem tz3 : tzero Try.prog 3 = some (.int .i64 0) := by kernel_rfl
theorem tz31 : tzero Try.prog 31 = some (.agg #[.int .i64 0, .int .i64 0, .int .i64 0]) := by kernel_rfl
theorem tz45 : tzero Try.prog 45 = some (.agg #[.map none]) := by kernel_rfl
theorem tz48 : tzero Try.prog 48 = some (.agg #[.int .i64 0, .int .i64 0]) := by kernel_rfl
theorem tz51 : tzero Try.prog 51 = some (.agg #[.int .i64 0, .int .i64 0, .int .u32 0, .int .u32 0, .int .u32 0, .int .u32 0, .int .u32 0, .int .u32 0]) := by kernel_rfl
theorem tz53 : tzero Try.prog 53 = some (.agg #[.int .i64 0, .int .i64 0, .int .i64 0, .int .i64 0, .int .u32 0, .int .u32 0, .int .u32 0, .int .u32 0, .int .u32 0, .int .u32 0, .int .i64 0, .bool false, .bool false]) := by kernel_rfl
theorem tz64 : tzero Try.prog 64 = some (.agg #[.map none]) := by kernel_rfl
theorem tz67 : tzero Try.prog 67 = some (.agg #[.int .i64 0, .int .i64 0]) := by kernel_rfl
theorem tz71 : tzero Try.prog 71 = some (.agg #[.int .i64 0, .int .i64 0]) := by kernel_rfl
theorem tz80 : tzero Try.prog 80 = some (.agg #[.slice none 0 0]) := by kernel_rfl
theorem tz83 : tzero Try.prog 83 = some (.agg #[.slice none 0 0, .int .i64 0]) := by kernel_rfl
theorem tz88 : tzero Try.prog 88 = some (.agg #[.int .i64 0, .int .i64 0, .int .i64 0, .int .i64 0, .int .u32 0, .int .u32 0, .int .u32 0, .int .u32 0, .int .u32 0, .int .u32 0, .int .i64 0, .bool false, .bool false]) := by kernel_rfl
theorem real16 : Real Try.prog 16 := ⟨Try.f16, Try.func16, by kernel_rfl, by kernel_rfl⟩
theorem real30 : Real Try.prog 30 := ⟨Try.f30, Try.func30, by kernel_rfl, by kernel_rfl⟩
theorem real31 : Real Try.prog 31 := ⟨Try.f31, Try.func31, by kernel_rfl, by kernel_rfl⟩
theorem real33 : Real Try.prog 33 := ⟨Try.f33, Try.func33, by kernel_rfl, by kernel_rfl⟩
theorem real34 : Real Try.prog 34 := ⟨Try.f34, Try.func34, by kernel_rfl, by kernel_rfl⟩
theorem real35 : Real Try.prog 35 := ⟨Try.f35, Try.func35, by kernel_rfl, by kernel_rfl⟩
theorem real36 : Real Try.prog 36 := ⟨Try.f36, Try.func36, by kernel_rfl, by kernel_rfl⟩
theorem real71 : Real Try.prog 71 := ⟨Try.f71, Try.func71, by kernel_rfl, by kernel_rfl⟩
theorem real72 : Real Try.prog 72 := ⟨Try.f72, Try.func72, by kernel_rfl, by kernel_rfl⟩
theorem real74 : Real Try.prog 74 := ⟨Try.f74, Try.func74, by kernel_rfl, by kernel_rfl⟩
theorem real94 : Real Try.prog 94 := ⟨Try.f94, Try.func94, by kernel_rfl, by kernel_rfl⟩
theorem res36 : Try.f36.results.toList = [.cell 4 48, .tmp 5] := by kernel_rfl
theorem mixed : Try.prog.follows .mixedOrders = true := by kernel_rfl
end Go.Proofs.Ytaeiggbfjhompaa.Ae
