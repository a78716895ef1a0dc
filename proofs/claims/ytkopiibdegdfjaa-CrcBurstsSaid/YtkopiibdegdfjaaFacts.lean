import Derived.Test.YtkopiibdegdfjaaBase3
import Derived.Test.YtkopiibdegdfjaaProg
import Derived.KernelRfl
namespace Go.Proofs.Ytkopiibdegdfjaa
open Go Go.Cx
set_option linter.unusedVariables false
theorem ti3 : TI Try.prog 3 (.int .i64 0) 1 8 := by unfold TI; kernel_rfl
theorem ti4 : TI Try.prog 4 (.bool false) 1 1 := by unfold TI; kernel_rfl
theorem ti5 : TI Try.prog 5 (.int .u8 0) 1 1 := by unfold TI; kernel_rfl
theorem ti22 : TI Try.prog 22 (.slice none 0 0) 1 24 := by unfold TI; kernel_rfl
theorem ti23 : TI Try.prog 23 (.int .u32 0) 1 4 := by unfold TI; kernel_rfl
theorem ti34 : TI Try.prog 34 (.agg #[(.int .u8 0), (.int .u8 0), (.int .u8 0), (.int .u8 0)]) 4 4 := by unfold TI; kernel_rfl
theorem ti36 : TI Try.prog 36 (.agg #[(.int .u32 0), (.int .u32 0), (.int .u32 0), (.int .u32 0), (.int .u32 0), (.int .u32 0), (.int .u32 0), (.int .u32 0), (.int .u32 0), (.int .u32 0), (.int .u32 0), (.int .u32 0), (.int .u32 0), (.int .u32 0), (.int .u32 0), (.int .u32 0)]) 16 64 := by unfold TI; kernel_rfl
theorem ti44 : TI Try.prog 44 .nilFunc 1 8 := by unfold TI; kernel_rfl
theorem go3 : GoFn Try.prog 3 := GoFn.of Try.func3 (by kernel_rfl) rfl
theorem go4 : GoFn Try.prog 4 := GoFn.of Try.func4 (by kernel_rfl) rfl
theorem go5 : GoFn Try.prog 5 := GoFn.of Try.func5 (by kernel_rfl) rfl
theorem go6 : GoFn Try.prog 6 := GoFn.of Try.func6 (by kernel_rfl) rfl
theorem go7 : GoFn Try.prog 7 := GoFn.of Try.func7 (by kernel_rfl) rfl
theorem go8 : GoFn Try.prog 8 := GoFn.of Try.func8 (by kernel_rfl) rfl
theorem go9 : GoFn Try.prog 9 := GoFn.of Try.func9 (by kernel_rfl) rfl
theorem go10 : GoFn Try.prog 10 := GoFn.of Try.func10 (by kernel_rfl) rfl
theorem go11 : GoFn Try.prog 11 := GoFn.of Try.func11 (by kernel_rfl) rfl
theorem go12 : GoFn Try.prog 12 := GoFn.of Try.func12 (by kernel_rfl) rfl
theorem go13 : GoFn Try.prog 13 := GoFn.of Try.func13 (by kernel_rfl) rfl
theorem go14 : GoFn Try.prog 14 := GoFn.of Try.func14 (by kernel_rfl) rfl
theorem go15 : GoFn Try.prog 15 := GoFn.of Try.func15 (by kernel_rfl) rfl
theorem go16 : GoFn Try.prog 16 := GoFn.of Try.func16 (by kernel_rfl) rfl
theorem go17 : GoFn Try.prog 17 := GoFn.of Try.func17 (by kernel_rfl) rfl
theorem go18 : GoFn Try.prog 18 := GoFn.of Try.func18 (by kernel_rfl) rfl
theorem go19 : GoFn Try.prog 19 := GoFn.of Try.func19 (by kernel_rfl) rfl
theorem go20 : GoFn Try.prog 20 := GoFn.of Try.func20 (by kernel_rfl) rfl
theorem go21 : GoFn Try.prog 21 := GoFn.of Try.func21 (by kernel_rfl) rfl
theorem go22 : GoFn Try.prog 22 := GoFn.of Try.func22 (by kernel_rfl) rfl
theorem go23 : GoFn Try.prog 23 := GoFn.of Try.func23 (by kernel_rfl) rfl
theorem go24 : GoFn Try.prog 24 := GoFn.of Try.func24 (by kernel_rfl) rfl
theorem go25 : GoFn Try.prog 25 := GoFn.of Try.func25 (by kernel_rfl) rfl
theorem mixed : Try.prog.follows .mixedOrders = true := by kernel_rfl
end Go.Proofs.Ytkopiibdegdfjaa
