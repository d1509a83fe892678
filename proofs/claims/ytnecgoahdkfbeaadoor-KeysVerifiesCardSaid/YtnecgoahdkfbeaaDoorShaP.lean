/- The hash of bytes, plain: words as whole numbers, with the model's own 'wrap' and 'bits'; the turning of a word, the program's and the reference's. -/
import Derived.Test.YtnecgoahdkfbeaaDoorProg
import Derived.Test.YtnecgoahdkfbeaaDoorShaQ
import Derived.StillTailTactics
namespace Go.Proofs.YtnecgoahdkfbeaaDoor.Sha
open Go Go.RowKit Go.Proofs.YtnecgoahdkfbeaaDoor.Cop
set_option linter.unusedVariables false
set_option linter.unusedSimpArgs false
theorem rror2 (x : Int) (w : World) : Calls Tryd.prog 264 #[.int .u32 x, .int .u64 2] w fun e w' => e = .returned (.int .u32 (rorI x 2)) ∧ w = w' := by
  go_enter Tryd.func264, Tryd.ntmps264
  go_wp2
  go_ret
  exact ⟨rfl, rfl⟩
theorem ror2 (x : Int) (w : World) : Calls Tryd.prog 261 #[.int .u32 x, .int .i64 2] w fun e w' => e = .returned (.int .u32 (rorI x 2)) ∧ w = w' := by
  have e : bits .and .u64 (IntKind.u64.wrap (-2)) 31 = 30 := by kernel_rfl
  go_enter Tryd.func261, Tryd.ntmps261
  go_wp2
  go_ret
  exact ⟨congrArg (fun z => Ending.returned (.int .u32 z)) (bits_or_comm .u32 _ _), rfl⟩
theorem rror6 (x : Int) (w : World) : Calls Tryd.prog 264 #[.int .u32 x, .int .u64 6] w fun e w' => e = .returned (.int .u32 (rorI x 6)) ∧ w = w' := by
  go_enter Tryd.func264, Tryd.ntmps264
  go_wp2
  go_ret
  exact ⟨rfl, rfl⟩
theorem ror6 (x : Int) (w : World) : Calls Tryd.prog 261 #[.int .u32 x, .int .i64 6] w fun e w' => e = .returned (.int .u32 (rorI x 6)) ∧ w = w' := by
  have e : bits .and .u64 (IntKind.u64.wrap (-6)) 31 = 26 := by kernel_rfl
  go_enter Tryd.func261, Tryd.ntmps261
  go_wp2
  go_ret
  exact ⟨congrArg (fun z => Ending.returned (.int .u32 z)) (bits_or_comm .u32 _ _), rfl⟩
theorem rror7 (x : Int) (w : World) : Calls Tryd.prog 264 #[.int .u32 x, .int .u64 7] w fun e w' => e = .returned (.int .u32 (rorI x 7)) ∧ w = w' := by
  go_enter Tryd.func264, Tryd.ntmps264
  go_wp2
  go_ret
  exact ⟨rfl, rfl⟩
theorem ror7 (x : Int) (w : World) : Calls Tryd.prog 261 #[.int .u32 x, .int .i64 7] w fun e w' => e = .returned (.int .u32 (rorI x 7)) ∧ w = w' := by
  have e : bits .and .u64 (IntKind.u64.wrap (-7)) 31 = 25 := by kernel_rfl
  go_enter Tryd.func261, Tryd.ntmps261
  go_wp2
  go_ret
  exact ⟨congrArg (fun z => Ending.returned (.int .u32 z)) (bits_or_comm .u32 _ _), rfl⟩
theorem rror11 (x : Int) (w : World) : Calls Tryd.prog 264 #[.int .u32 x, .int .u64 11] w fun e w' => e = .returned (.int .u32 (rorI x 11)) ∧ w = w' := by
  go_enter Tryd.func264, Tryd.ntmps264
  go_wp2
  go_ret
  exact ⟨rfl, rfl⟩
theorem ror11 (x : Int) (w : World) : Calls Tryd.prog 261 #[.int .u32 x, .int .i64 11] w fun e w' => e = .returned (.int .u32 (rorI x 11)) ∧ w = w' := by
  have e : bits .and .u64 (IntKind.u64.wrap (-11)) 31 = 21 := by kernel_rfl
  go_enter Tryd.func261, Tryd.ntmps261
  go_wp2
  go_ret
  exact ⟨congrArg (fun z => Ending.returned (.int .u32 z)) (bits_or_comm .u32 _ _), rfl⟩
theorem rror13 (x : Int) (w : World) : Calls Tryd.prog 264 #[.int .u32 x, .int .u64 13] w fun e w' => e = .returned (.int .u32 (rorI x 13)) ∧ w = w' := by
  go_enter Tryd.func264, Tryd.ntmps264
  go_wp2
  go_ret
  exact ⟨rfl, rfl⟩
theorem ror13 (x : Int) (w : World) : Calls Tryd.prog 261 #[.int .u32 x, .int .i64 13] w fun e w' => e = .returned (.int .u32 (rorI x 13)) ∧ w = w' := by
  have e : bits .and .u64 (IntKind.u64.wrap (-13)) 31 = 19 := by kernel_rfl
  go_enter Tryd.func261, Tryd.ntmps261
  go_wp2
  go_ret
  exact ⟨congrArg (fun z => Ending.returned (.int .u32 z)) (bits_or_comm .u32 _ _), rfl⟩
theorem rror17 (x : Int) (w : World) : Calls Tryd.prog 264 #[.int .u32 x, .int .u64 17] w fun e w' => e = .returned (.int .u32 (rorI x 17)) ∧ w = w' := by
  go_enter Tryd.func264, Tryd.ntmps264
  go_wp2
  go_ret
  exact ⟨rfl, rfl⟩
theorem ror17 (x : Int) (w : World) : Calls Tryd.prog 261 #[.int .u32 x, .int .i64 17] w fun e w' => e = .returned (.int .u32 (rorI x 17)) ∧ w = w' := by
  have e : bits .and .u64 (IntKind.u64.wrap (-17)) 31 = 15 := by kernel_rfl
  go_enter Tryd.func261, Tryd.ntmps261
  go_wp2
  go_ret
  exact ⟨congrArg (fun z => Ending.returned (.int .u32 z)) (bits_or_comm .u32 _ _), rfl⟩
theorem rror18 (x : Int) (w : World) : Calls Tryd.prog 264 #[.int .u32 x, .int .u64 18] w fun e w' => e = .returned (.int .u32 (rorI x 18)) ∧ w = w' := by
  go_enter Tryd.func264, Tryd.ntmps264
  go_wp2
  go_ret
  exact ⟨rfl, rfl⟩
theorem ror18 (x : Int) (w : World) : Calls Tryd.prog 261 #[.int .u32 x, .int .i64 18] w fun e w' => e = .returned (.int .u32 (rorI x 18)) ∧ w = w' := by
  have e : bits .and .u64 (IntKind.u64.wrap (-18)) 31 = 14 := by kernel_rfl
  go_enter Tryd.func261, Tryd.ntmps261
  go_wp2
  go_ret
  exact ⟨congrArg (fun z => Ending.returned (.int .u32 z)) (bits_or_comm .u32 _ _), rfl⟩
theorem rror19 (x : Int) (w : World) : Calls Tryd.prog 264 #[.int .u32 x, .int .u64 19] w fun e w' => e = .returned (.int .u32 (rorI x 19)) ∧ w = w' := by
  go_enter Tryd.func264, Tryd.ntmps264
  go_wp2
  go_ret
  exact ⟨rfl, rfl⟩
theorem ror19 (x : Int) (w : World) : Calls Tryd.prog 261 #[.int .u32 x, .int .i64 19] w fun e w' => e = .returned (.int .u32 (rorI x 19)) ∧ w = w' := by
  have e : bits .and .u64 (IntKind.u64.wrap (-19)) 31 = 13 := by kernel_rfl
  go_enter Tryd.func261, Tryd.ntmps261
  go_wp2
  go_ret
  exact ⟨congrArg (fun z => Ending.returned (.int .u32 z)) (bits_or_comm .u32 _ _), rfl⟩
theorem rror22 (x : Int) (w : World) : Calls Tryd.prog 264 #[.int .u32 x, .int .u64 22] w fun e w' => e = .returned (.int .u32 (rorI x 22)) ∧ w = w' := by
  go_enter Tryd.func264, Tryd.ntmps264
  go_wp2
  go_ret
  exact ⟨rfl, rfl⟩
theorem ror22 (x : Int) (w : World) : Calls Tryd.prog 261 #[.int .u32 x, .int .i64 22] w fun e w' => e = .returned (.int .u32 (rorI x 22)) ∧ w = w' := by
  have e : bits .and .u64 (IntKind.u64.wrap (-22)) 31 = 10 := by kernel_rfl
  go_enter Tryd.func261, Tryd.ntmps261
  go_wp2
  go_ret
  exact ⟨congrArg (fun z => Ending.returned (.int .u32 z)) (bits_or_comm .u32 _ _), rfl⟩
theorem rror25 (x : Int) (w : World) : Calls Tryd.prog 264 #[.int .u32 x, .int .u64 25] w fun e w' => e = .returned (.int .u32 (rorI x 25)) ∧ w = w' := by
  go_enter Tryd.func264, Tryd.ntmps264
  go_wp2
  go_ret
  exact ⟨rfl, rfl⟩
theorem ror25 (x : Int) (w : World) : Calls Tryd.prog 261 #[.int .u32 x, .int .i64 25] w fun e w' => e = .returned (.int .u32 (rorI x 25)) ∧ w = w' := by
  have e : bits .and .u64 (IntKind.u64.wrap (-25)) 31 = 7 := by kernel_rfl
  go_enter Tryd.func261, Tryd.ntmps261
  go_wp2
  go_ret
  exact ⟨congrArg (fun z => Ending.returned (.int .u32 z)) (bits_or_comm .u32 _ _), rfl⟩
def isK (k : Int) : Bool := k == 2 || k == 6 || k == 7 || k == 11 || k == 13 || k == 17 || k == 18 || k == 19 || k == 22 || k == 25
theorem isK_cases {k : Int} (h : isK k = true) : k = 2 ∨ k = 6 ∨ k = 7 ∨ k = 11 ∨ k = 13 ∨ k = 17 ∨ k = 18 ∨ k = 19 ∨ k = 22 ∨ k = 25 := by
  simp only [isK, Bool.or_eq_true, beq_iff_eq] at h
  omega
theorem ror_any (x k : Int) (w : World) (h : isK k = true) : Calls Tryd.prog 261 #[.int .u32 x, .int .i64 k] w fun e w' => e = .returned (.int .u32 (rorI x k)) ∧ w' = w := by
  rcases isK_cases h with rfl | rfl | rfl | rfl | rfl | rfl | rfl | rfl | rfl | rfl
  · exact (ror2 x w).mono fun _ _ q => ⟨q.1, q.2.symm⟩
  · exact (ror6 x w).mono fun _ _ q => ⟨q.1, q.2.symm⟩
  · exact (ror7 x w).mono fun _ _ q => ⟨q.1, q.2.symm⟩
  · exact (ror11 x w).mono fun _ _ q => ⟨q.1, q.2.symm⟩
  · exact (ror13 x w).mono fun _ _ q => ⟨q.1, q.2.symm⟩
  · exact (ror17 x w).mono fun _ _ q => ⟨q.1, q.2.symm⟩
  · exact (ror18 x w).mono fun _ _ q => ⟨q.1, q.2.symm⟩
  · exact (ror19 x w).mono fun _ _ q => ⟨q.1, q.2.symm⟩
  · exact (ror22 x w).mono fun _ _ q => ⟨q.1, q.2.symm⟩
  · exact (ror25 x w).mono fun _ _ q => ⟨q.1, q.2.symm⟩
theorem rror_any (x k : Int) (w : World) (h : isK k = true) : Calls Tryd.prog 264 #[.int .u32 x, .int .u64 k] w fun e w' => e = .returned (.int .u32 (rorI x k)) ∧ w' = w := by
  rcases isK_cases h with rfl | rfl | rfl | rfl | rfl | rfl | rfl | rfl | rfl | rfl
  · exact (rror2 x w).mono fun _ _ q => ⟨q.1, q.2.symm⟩
  · exact (rror6 x w).mono fun _ _ q => ⟨q.1, q.2.symm⟩
  · exact (rror7 x w).mono fun _ _ q => ⟨q.1, q.2.symm⟩
  · exact (rror11 x w).mono fun _ _ q => ⟨q.1, q.2.symm⟩
  · exact (rror13 x w).mono fun _ _ q => ⟨q.1, q.2.symm⟩
  · exact (rror17 x w).mono fun _ _ q => ⟨q.1, q.2.symm⟩
  · exact (rror18 x w).mono fun _ _ q => ⟨q.1, q.2.symm⟩
  · exact (rror19 x w).mono fun _ _ q => ⟨q.1, q.2.symm⟩
  · exact (rror22 x w).mono fun _ _ q => ⟨q.1, q.2.symm⟩
  · exact (rror25 x w).mono fun _ _ q => ⟨q.1, q.2.symm⟩
end Go.Proofs.YtnecgoahdkfbeaaDoor.Sha
