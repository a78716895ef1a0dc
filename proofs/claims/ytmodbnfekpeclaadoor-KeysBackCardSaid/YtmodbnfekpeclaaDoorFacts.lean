import Derived.Test.YtmodbnfekpeclaaDoorBase7
import Derived.Test.YtmodbnfekpeclaaDoorProg
import Derived.KernelRfl
namespace Go.Proofs.YtmodbnfekpeclaaDoor
open Go Go.Cx
set_option linter.unusedVariables false
theorem ti3 : TI Tryd.prog 3 (.int .i64 0) 1 8 := by unfold TI; kernel_rfl
theorem ti4 : TI Tryd.prog 4 (.bool false) 1 1 := by unfold TI; kernel_rfl
theorem ti5 : TI Tryd.prog 5 (.int .u8 0) 1 1 := by unfold TI; kernel_rfl
theorem ti9 : TI Tryd.prog 9 (.string ⟨#[]⟩) 1 16 := by unfold TI; kernel_rfl
theorem ti12 : TI Tryd.prog 12 (.int .u64 0) 1 8 := by unfold TI; kernel_rfl
theorem ti22 : TI Tryd.prog 22 (.int .i64 0) 1 8 := by unfold TI; kernel_rfl
theorem ti25 : TI Tryd.prog 25 .nilFunc 1 8 := by unfold TI; kernel_rfl
theorem ti37 : TI Tryd.prog 37 (.slice none 0 0) 1 24 := by unfold TI; kernel_rfl
theorem ti40 : TI Tryd.prog 40 (.agg #[(.int .i64 0), .nilFunc]) 2 16 := by unfold TI; kernel_rfl
theorem ti41 : TI Tryd.prog 41 (.slice none 0 0) 1 24 := by unfold TI; kernel_rfl
theorem ti48 : TI Tryd.prog 48 (.agg #[(.int .u8 0), (.int .u8 0)]) 2 2 := by unfold TI; kernel_rfl
theorem ti49 : TI Tryd.prog 49 (.agg #[(.int .u8 0), (.int .u8 0), (.int .u8 0), (.int .u8 0), (.int .u8 0), (.int .u8 0), (.int .u8 0), (.int .u8 0), (.int .u8 0), (.int .u8 0), (.int .u8 0), (.int .u8 0), (.int .u8 0), (.int .u8 0), (.int .u8 0), (.int .u8 0), (.int .u8 0), (.int .u8 0), (.int .u8 0), (.int .u8 0), (.int .u8 0), (.int .u8 0), (.int .u8 0), (.int .u8 0), (.int .u8 0), (.int .u8 0), (.int .u8 0), (.int .u8 0), (.int .u8 0), (.int .u8 0), (.int .u8 0), (.int .u8 0)]) 32 32 := by unfold TI; kernel_rfl
theorem ti51 : TI Tryd.prog 51 (.int .u64 0) 1 8 := by unfold TI; kernel_rfl
theorem fi40f0 : FI Tryd.prog 40 0 0 22 := ⟨_, _, Tryd.underlying40, rfl, rfl, rfl⟩
theorem fi40f1 : FI Tryd.prog 40 1 1 25 := ⟨_, _, Tryd.underlying40, rfl, rfl, rfl⟩
theorem fi48f0 : FI Tryd.prog 48 0 0 5 := ⟨_, _, Tryd.underlying48, rfl, rfl, rfl⟩
theorem fi48f1 : FI Tryd.prog 48 1 1 5 := ⟨_, _, Tryd.underlying48, rfl, rfl, rfl⟩
theorem go3 : GoFn Tryd.prog 3 := GoFn.of Tryd.func3 (by kernel_rfl) rfl
theorem go4 : GoFn Tryd.prog 4 := GoFn.of Tryd.func4 (by kernel_rfl) rfl
theorem go5 : GoFn Tryd.prog 5 := GoFn.of Tryd.func5 (by kernel_rfl) rfl
theorem go6 : GoFn Tryd.prog 6 := GoFn.of Tryd.func6 (by kernel_rfl) rfl
theorem go7 : GoFn Tryd.prog 7 := GoFn.of Tryd.func7 (by kernel_rfl) rfl
theorem go8 : GoFn Tryd.prog 8 := GoFn.of Tryd.func8 (by kernel_rfl) rfl
theorem go9 : GoFn Tryd.prog 9 := GoFn.of Tryd.func9 (by kernel_rfl) rfl
theorem go10 : GoFn Tryd.prog 10 := GoFn.of Tryd.func10 (by kernel_rfl) rfl
theorem go11 : GoFn Tryd.prog 11 := GoFn.of Tryd.func11 (by kernel_rfl) rfl
theorem go12 : GoFn Tryd.prog 12 := GoFn.of Tryd.func12 (by kernel_rfl) rfl
theorem go13 : GoFn Tryd.prog 13 := GoFn.of Tryd.func13 (by kernel_rfl) rfl
theorem go14 : GoFn Tryd.prog 14 := GoFn.of Tryd.func14 (by kernel_rfl) rfl
theorem go15 : GoFn Tryd.prog 15 := GoFn.of Tryd.func15 (by kernel_rfl) rfl
theorem go16 : GoFn Tryd.prog 16 := GoFn.of Tryd.func16 (by kernel_rfl) rfl
theorem go17 : GoFn Tryd.prog 17 := GoFn.of Tryd.func17 (by kernel_rfl) rfl
theorem go18 : GoFn Tryd.prog 18 := GoFn.of Tryd.func18 (by kernel_rfl) rfl
theorem go19 : GoFn Tryd.prog 19 := GoFn.of Tryd.func19 (by kernel_rfl) rfl
theorem go20 : GoFn Tryd.prog 20 := GoFn.of Tryd.func20 (by kernel_rfl) rfl
theorem go21 : GoFn Tryd.prog 21 := GoFn.of Tryd.func21 (by kernel_rfl) rfl
theorem go22 : GoFn Tryd.prog 22 := GoFn.of Tryd.func22 (by kernel_rfl) rfl
theorem go23 : GoFn Tryd.prog 23 := GoFn.of Tryd.func23 (by kernel_rfl) rfl
theorem go24 : GoFn Tryd.prog 24 := GoFn.of Tryd.func24 (by kernel_rfl) rfl
theorem go25 : GoFn Tryd.prog 25 := GoFn.of Tryd.func25 (by kernel_rfl) rfl
theorem go26 : GoFn Tryd.prog 26 := GoFn.of Tryd.func26 (by kernel_rfl) rfl
theorem go27 : GoFn Tryd.prog 27 := GoFn.of Tryd.func27 (by kernel_rfl) rfl
theorem go28 : GoFn Tryd.prog 28 := GoFn.of Tryd.func28 (by kernel_rfl) rfl
theorem go29 : GoFn Tryd.prog 29 := GoFn.of Tryd.func29 (by kernel_rfl) rfl
theorem go30 : GoFn Tryd.prog 30 := GoFn.of Tryd.func30 (by kernel_rfl) rfl
theorem go31 : GoFn Tryd.prog 31 := GoFn.of Tryd.func31 (by kernel_rfl) rfl
theorem go32 : GoFn Tryd.prog 32 := GoFn.of Tryd.func32 (by kernel_rfl) rfl
theorem go33 : GoFn Tryd.prog 33 := GoFn.of Tryd.func33 (by kernel_rfl) rfl
theorem go54 : GoFn Tryd.prog 54 := GoFn.of Tryd.func54 (by kernel_rfl) rfl
theorem mixed : Tryd.prog.follows .mixedOrders = true := by kernel_rfl
end Go.Proofs.YtmodbnfekpeclaaDoor
