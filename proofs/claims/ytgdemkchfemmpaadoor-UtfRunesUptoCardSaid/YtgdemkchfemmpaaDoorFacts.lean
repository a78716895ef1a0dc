import Derived.Test.YtgdemkchfemmpaaDoorBase7
import Derived.Test.YtgdemkchfemmpaaDoorProg
import Derived.KernelRfl
namespace Go.Proofs.YtgdemkchfemmpaaDoor
open Go Go.Cx
set_option linter.unusedVariables false
theorem ti3 : TI Tryd.prog 3 (.int .i64 0) 1 8 := by unfold TI; kernel_rfl
theorem ti4 : TI Tryd.prog 4 (.bool false) 1 1 := by unfold TI; kernel_rfl
theorem ti5 : TI Tryd.prog 5 (.int .u8 0) 1 1 := by unfold TI; kernel_rfl
theorem ti9 : TI Tryd.prog 9 (.string ⟨#[]⟩) 1 16 := by unfold TI; kernel_rfl
theorem ti12 : TI Tryd.prog 12 (.int .u64 0) 1 8 := by unfold TI; kernel_rfl
theorem ti21 : TI Tryd.prog 21 (.int .i32 0) 1 4 := by unfold TI; kernel_rfl
theorem ti24 : TI Tryd.prog 24 (.int .i64 0) 1 8 := by unfold TI; kernel_rfl
theorem ti38 : TI Tryd.prog 38 (.slice none 0 0) 1 24 := by unfold TI; kernel_rfl
theorem ti42 : TI Tryd.prog 42 .nilFunc 1 8 := by unfold TI; kernel_rfl
theorem ti47 : TI Tryd.prog 47 (.map none) 1 8 := by unfold TI; kernel_rfl
theorem ti48 : TI Tryd.prog 48 (.pointer none) 1 8 := by unfold TI; kernel_rfl
theorem ti49 : TI Tryd.prog 49 (.slice none 0 0) 1 24 := by unfold TI; kernel_rfl
theorem ti51 : TI Tryd.prog 51 (.agg #[(.pointer none), (.slice none 0 0)]) 2 32 := by unfold TI; kernel_rfl
theorem ti68 : TI Tryd.prog 68 .nilFunc 1 8 := by unfold TI; kernel_rfl
theorem ti74 : TI Tryd.prog 74 (.agg #[(.int .u8 0), (.int .u8 0)]) 2 2 := by unfold TI; kernel_rfl
theorem ti75 : TI Tryd.prog 75 (.agg #[(.int .u8 0), (.int .u8 0), (.int .u8 0), (.int .u8 0), (.int .u8 0), (.int .u8 0), (.int .u8 0), (.int .u8 0), (.int .u8 0), (.int .u8 0), (.int .u8 0), (.int .u8 0), (.int .u8 0), (.int .u8 0), (.int .u8 0), (.int .u8 0), (.int .u8 0), (.int .u8 0), (.int .u8 0), (.int .u8 0), (.int .u8 0), (.int .u8 0), (.int .u8 0), (.int .u8 0), (.int .u8 0), (.int .u8 0), (.int .u8 0), (.int .u8 0), (.int .u8 0), (.int .u8 0), (.int .u8 0), (.int .u8 0)]) 32 32 := by unfold TI; kernel_rfl
theorem ti77 : TI Tryd.prog 77 (.pointer none) 1 8 := by unfold TI; kernel_rfl
theorem ti81 : TI Tryd.prog 81 (.int .u64 0) 1 8 := by unfold TI; kernel_rfl
theorem ti82 : TI Tryd.prog 82 (.pointer none) 1 8 := by unfold TI; kernel_rfl
theorem ti84 : TI Tryd.prog 84 (.int .u32 0) 1 4 := by unfold TI; kernel_rfl
theorem fi51f0 : FI Tryd.prog 51 0 0 48 := ⟨_, _, Tryd.underlying51, rfl, rfl, rfl⟩
theorem fi51f1 : FI Tryd.prog 51 1 1 49 := ⟨_, _, Tryd.underlying51, rfl, rfl, rfl⟩
theorem fi74f0 : FI Tryd.prog 74 0 0 5 := ⟨_, _, Tryd.underlying74, rfl, rfl, rfl⟩
theorem fi74f1 : FI Tryd.prog 74 1 1 5 := ⟨_, _, Tryd.underlying74, rfl, rfl, rfl⟩
theorem go3 : GoFn Tryd.prog 3 := GoFn.of Tryd.func3 (by kernel_rfl) rfl
theorem go4 : GoFn Tryd.prog 4 := GoFn.of Tryd.func4 (by kernel_rfl) rfl
theorem go5 : GoFn Tryd.prog 5 := GoFn.of Tryd.func5 (by kernel_rfl) rfl
theorem go6 : GoFn Tryd.prog 6 := GoFn.of Tryd.func6 (by kernel_rfl) rfl
theorem go7 : GoFn Tryd.prog 7 := GoFn.of Tryd.func7 (by kernel_rfl) rfl
theorem go8 : GoFn Tryd.prog 8 := GoFn.of Tryd.func8 (by kernel_rfl) rfl
theorem go9 : GoFn Tryd.prog 9 := GoFn.of Tryd.func9 (by kernel_rfl) rfl
theorem go10 : GoFn Tryd.prog 10 := GoFn.of Tryd.func10 (by kernel_rfl) rfl
theorem go11 : GoFn Tryd.prog 11 := GoFn.of Tryd.func11 (by kernel_rfl) rfl
theorem go12 : GoFn Tryd.prog 12 := GoFn.of Tryd.func12 (by kernel_rfl) rfl
theorem go13 : GoFn Tryd.prog 13 := GoFn.of Tryd.func13 (by kernel_rfl) rfl
theorem go14 : GoFn Tryd.prog 14 := GoFn.of Tryd.func14 (by kernel_rfl) rfl
theorem go15 : GoFn Tryd.prog 15 := GoFn.of Tryd.func15 (by kernel_rfl) rfl
theorem go16 : GoFn Tryd.prog 16 := GoFn.of Tryd.func16 (by kernel_rfl) rfl
theorem go17 : GoFn Tryd.prog 17 := GoFn.of Tryd.func17 (by kernel_rfl) rfl
theorem go18 : GoFn Tryd.prog 18 := GoFn.of Tryd.func18 (by kernel_rfl) rfl
theorem go19 : GoFn Tryd.prog 19 := GoFn.of Tryd.func19 (by kernel_rfl) rfl
theorem go20 : GoFn Tryd.prog 20 := GoFn.of Tryd.func20 (by kernel_rfl) rfl
theorem go21 : GoFn Tryd.prog 21 := GoFn.of Tryd.func21 (by kernel_rfl) rfl
theorem go22 : GoFn Tryd.prog 22 := GoFn.of Tryd.func22 (by kernel_rfl) rfl
theorem go23 : GoFn Tryd.prog 23 := GoFn.of Tryd.func23 (by kernel_rfl) rfl
theorem go24 : GoFn Tryd.prog 24 := GoFn.of Tryd.func24 (by kernel_rfl) rfl
theorem go25 : GoFn Tryd.prog 25 := GoFn.of Tryd.func25 (by kernel_rfl) rfl
theorem go26 : GoFn Tryd.prog 26 := GoFn.of Tryd.func26 (by kernel_rfl) rfl
theorem go27 : GoFn Tryd.prog 27 := GoFn.of Tryd.func27 (by kernel_rfl) rfl
theorem go28 : GoFn Tryd.prog 28 := GoFn.of Tryd.func28 (by kernel_rfl) rfl
theorem go29 : GoFn Tryd.prog 29 := GoFn.of Tryd.func29 (by kernel_rfl) rfl
theorem go30 : GoFn Tryd.prog 30 := GoFn.of Tryd.func30 (by kernel_rfl) rfl
theorem go31 : GoFn Tryd.prog 31 := GoFn.of Tryd.func31 (by kernel_rfl) rfl
theorem go32 : GoFn Tryd.prog 32 := GoFn.of Tryd.func32 (by kernel_rfl) rfl
theorem go33 : GoFn Tryd.prog 33 := GoFn.of Tryd.func33 (by kernel_rfl) rfl
theorem go34 : GoFn Tryd.prog 34 := GoFn.of Tryd.func34 (by kernel_rfl) rfl
theorem go35 : GoFn Tryd.prog 35 := GoFn.of Tryd.func35 (by kernel_rfl) rfl
theorem go36 : GoFn Tryd.prog 36 := GoFn.of Tryd.func36 (by kernel_rfl) rfl
theorem go37 : GoFn Tryd.prog 37 := GoFn.of Tryd.func37 (by kernel_rfl) rfl
theorem go38 : GoFn Tryd.prog 38 := GoFn.of Tryd.func38 (by kernel_rfl) rfl
theorem go39 : GoFn Tryd.prog 39 := GoFn.of Tryd.func39 (by kernel_rfl) rfl
theorem go40 : GoFn Tryd.prog 40 := GoFn.of Tryd.func40 (by kernel_rfl) rfl
theorem go41 : GoFn Tryd.prog 41 := GoFn.of Tryd.func41 (by kernel_rfl) rfl
theorem go42 : GoFn Tryd.prog 42 := GoFn.of Tryd.func42 (by kernel_rfl) rfl
theorem go43 : GoFn Tryd.prog 43 := GoFn.of Tryd.func43 (by kernel_rfl) rfl
theorem go45 : GoFn Tryd.prog 45 := GoFn.of Tryd.func45 (by kernel_rfl) rfl
theorem go46 : GoFn Tryd.prog 46 := GoFn.of Tryd.func46 (by kernel_rfl) rfl
theorem go68 : GoFn Tryd.prog 68 := GoFn.of Tryd.func68 (by kernel_rfl) rfl
theorem mixed : Tryd.prog.follows .mixedOrders = true := by kernel_rfl
end Go.Proofs.YtgdemkchfemmpaaDoor
