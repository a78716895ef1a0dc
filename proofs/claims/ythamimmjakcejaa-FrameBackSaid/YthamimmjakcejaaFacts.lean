import Derived.Test.YthamimmjakcejaaBase7
import Derived.Test.YthamimmjakcejaaProg
import Derived.KernelRfl
namespace Go.Proofs.Ythamimmjakcejaa
open Go Go.Cx
set_option linter.unusedVariables false
theorem ti3 : TI Try.prog 3 (.int .i64 0) 1 8 := by unfold TI; kernel_rfl
theorem ti4 : TI Try.prog 4 (.bool false) 1 1 := by unfold TI; kernel_rfl
theorem ti5 : TI Try.prog 5 (.int .u8 0) 1 1 := by unfold TI; kernel_rfl
theorem ti22 : TI Try.prog 22 (.slice none 0 0) 1 24 := by unfold TI; kernel_rfl
theorem ti23 : TI Try.prog 23 (.int .i64 0) 1 8 := by unfold TI; kernel_rfl
theorem ti42 : TI Try.prog 42 (.int .u8 0) 1 1 := by unfold TI; kernel_rfl
theorem ti43 : TI Try.prog 43 (.slice none 0 0) 1 24 := by unfold TI; kernel_rfl
theorem ti45 : TI Try.prog 45 (.agg #[(.int .u8 0), (.slice none 0 0)]) 2 32 := by unfold TI; kernel_rfl
theorem ti46 : TI Try.prog 46 .nilFunc 1 8 := by unfold TI; kernel_rfl
theorem ti48 : TI Try.prog 48 (.slice none 0 0) 1 24 := by unfold TI; kernel_rfl
theorem ti56 : TI Try.prog 56 (.int .u32 0) 1 4 := by unfold TI; kernel_rfl
theorem ti59 : TI Try.prog 59 (.agg #[(.int .u32 0), (.int .u32 0), (.int .u32 0), (.int .u32 0), (.int .u32 0), (.int .u32 0), (.int .u32 0), (.int .u32 0), (.int .u32 0), (.int .u32 0), (.int .u32 0), (.int .u32 0), (.int .u32 0), (.int .u32 0), (.int .u32 0), (.int .u32 0)]) 16 64 := by unfold TI; kernel_rfl
theorem ti67 : TI Try.prog 67 .nilFunc 1 8 := by unfold TI; kernel_rfl
theorem fi45f0 : FI Try.prog 45 0 0 42 := ⟨_, _, Try.underlying45, rfl, rfl, rfl⟩
theorem fi45f1 : FI Try.prog 45 1 1 43 := ⟨_, _, Try.underlying45, rfl, rfl, rfl⟩
theorem go3 : GoFn Try.prog 3 := GoFn.of Try.func3 (by kernel_rfl) rfl
theorem go4 : GoFn Try.prog 4 := GoFn.of Try.func4 (by kernel_rfl) rfl
theorem go5 : GoFn Try.prog 5 := GoFn.of Try.func5 (by kernel_rfl) rfl
theorem go6 : GoFn Try.prog 6 := GoFn.of Try.func6 (by kernel_rfl) rfl
theorem go7 : GoFn Try.prog 7 := GoFn.of Try.func7 (by kernel_rfl) rfl
theorem go8 : GoFn Try.prog 8 := GoFn.of Try.func8 (by kernel_rfl) rfl
theorem go9 : GoFn Try.prog 9 := GoFn.of Try.func9 (by kernel_rfl) rfl
theorem go10 : GoFn Try.prog 10 := GoFn.of Try.func10 (by kernel_rfl) rfl
theorem go11 : GoFn Try.prog 11 := GoFn.of Try.func11 (by kernel_rfl) rfl
theorem go12 : GoFn Try.prog 12 := GoFn.of Try.func12 (by kernel_rfl) rfl
theorem go13 : GoFn Try.prog 13 := GoFn.of Try.func13 (by kernel_rfl) rfl
theorem go14 : GoFn Try.prog 14 := GoFn.of Try.func14 (by kernel_rfl) rfl
theorem go15 : GoFn Try.prog 15 := GoFn.of Try.func15 (by kernel_rfl) rfl
theorem go16 : GoFn Try.prog 16 := GoFn.of Try.func16 (by kernel_rfl) rfl
theorem go17 : GoFn Try.prog 17 := GoFn.of Try.func17 (by kernel_rfl) rfl
theorem go18 : GoFn Try.prog 18 := GoFn.of Try.func18 (by kernel_rfl) rfl
theorem go19 : GoFn Try.prog 19 := GoFn.of Try.func19 (by kernel_rfl) rfl
theorem go20 : GoFn Try.prog 20 := GoFn.of Try.func20 (by kernel_rfl) rfl
theorem go21 : GoFn Try.prog 21 := GoFn.of Try.func21 (by kernel_rfl) rfl
theorem go22 : GoFn Try.prog 22 := GoFn.of Try.func22 (by kernel_rfl) rfl
theorem go23 : GoFn Try.prog 23 := GoFn.of Try.func23 (by kernel_rfl) rfl
theorem go24 : GoFn Try.prog 24 := GoFn.of Try.func24 (by kernel_rfl) rfl
theorem go25 : GoFn Try.prog 25 := GoFn.of Try.func25 (by kernel_rfl) rfl
theorem go26 : GoFn Try.prog 26 := GoFn.of Try.func26 (by kernel_rfl) rfl
theorem go27 : GoFn Try.prog 27 := GoFn.of Try.func27 (by kernel_rfl) rfl
theorem go28 : GoFn Try.prog 28 := GoFn.of Try.func28 (by kernel_rfl) rfl
theorem go29 : GoFn Try.prog 29 := GoFn.of Try.func29 (by kernel_rfl) rfl
theorem go30 : GoFn Try.prog 30 := GoFn.of Try.func30 (by kernel_rfl) rfl
theorem go31 : GoFn Try.prog 31 := GoFn.of Try.func31 (by kernel_rfl) rfl
theorem go32 : GoFn Try.prog 32 := GoFn.of Try.func32 (by kernel_rfl) rfl
theorem go33 : GoFn Try.prog 33 := GoFn.of Try.func33 (by kernel_rfl) rfl
theorem go34 : GoFn Try.prog 34 := GoFn.of Try.func34 (by kernel_rfl) rfl
theorem go35 : GoFn Try.prog 35 := GoFn.of Try.func35 (by kernel_rfl) rfl
theorem go36 : GoFn Try.prog 36 := GoFn.of Try.func36 (by kernel_rfl) rfl
theorem go37 : GoFn Try.prog 37 := GoFn.of Try.func37 (by kernel_rfl) rfl
theorem go38 : GoFn Try.prog 38 := GoFn.of Try.func38 (by kernel_rfl) rfl
theorem go39 : GoFn Try.prog 39 := GoFn.of Try.func39 (by kernel_rfl) rfl
theorem go40 : GoFn Try.prog 40 := GoFn.of Try.func40 (by kernel_rfl) rfl
theorem go41 : GoFn Try.prog 41 := GoFn.of Try.func41 (by kernel_rfl) rfl
theorem mixed : Try.prog.follows .mixedOrders = true := by kernel_rfl
end Go.Proofs.Ythamimmjakcejaa
