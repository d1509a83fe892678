/- The reference's constants. -/
import Derived.Test.YtnecgoahdkfbeaaDoorShaC
namespace Go.Proofs.YtnecgoahdkfbeaaDoor.Sha
open Go Go.RowKit Go.Proofs.YtnecgoahdkfbeaaDoor.Cop
set_option linter.unusedVariables false
set_option linter.unusedSimpArgs false
theorem kt_len : (wcs kt).length = 64 := by decide
/-- The constants as an array's value. -/
def kv : Value := .agg #[.int .u32 1116352408, .int .u32 1899447441, .int .u32 3049323471, .int .u32 3921009573, .int .u32 961987163, .int .u32 1508970993, .int .u32 2453635748, .int .u32 2870763221, .int .u32 3624381080, .int .u32 310598401, .int .u32 607225278, .int .u32 1426881987, .int .u32 1925078388, .int .u32 2162078206, .int .u32 2614888103, .int .u32 3248222580, .int .u32 3835390401, .int .u32 4022224774, .int .u32 264347078, .int .u32 604807628, .int .u32 770255983, .int .u32 1249150122, .int .u32 1555081692, .int .u32 1996064986, .int .u32 2554220882, .int .u32 2821834349, .int .u32 2952996808, .int .u32 3210313671, .int .u32 3336571891, .int .u32 3584528711, .int .u32 113926993, .int .u32 338241895, .int .u32 666307205, .int .u32 773529912, .int .u32 1294757372, .int .u32 1396182291, .int .u32 1695183700, .int .u32 1986661051, .int .u32 2177026350, .int .u32 2456956037, .int .u32 2730485921, .int .u32 2820302411, .int .u32 3259730800, .int .u32 3345764771, .int .u32 3516065817, .int .u32 3600352804, .int .u32 4094571909, .int .u32 275423344, .int .u32 430227734, .int .u32 506948616, .int .u32 659060556, .int .u32 883997877, .int .u32 958139571, .int .u32 1322822218, .int .u32 1537002063, .int .u32 1747873779, .int .u32 1955562222, .int .u32 2024104815, .int .u32 2227730452, .int .u32 2361852424, .int .u32 2428436474, .int .u32 2756734187, .int .u32 3204031479, .int .u32 3329325298]
theorem kv_eq : kv = wagg kt := by kernel_rfl
theorem kv_size : kv.cells.size = 64 := by kernel_rfl
theorem kv_one : ∀ u ∈ kv.cells.toList, u.oneCell' = true := by rw [kv_eq]; intro u hu; exact wcs_one kt u (by simpa [Value.cells] using hu)
set_option maxRecDepth 100000 in
set_option maxHeartbeats 1000000 in
theorem con_calls (w : World) : Calls Tryd.prog 263 #[] w fun e w' => e = .returned (wagg kt) ∧ Below w.heap.size w w' := by
  have hkv := Lib.hid kv_eq
  go_enter Tryd.func263, Tryd.ntmps263
  go_wp2_with (first | (((with_reducible refine gate_dst (N := 0) rfl ?_); go_loud (refine wp_alloc rfl _ rfl zeroW ?_); intro w1 hk1 hb1 hz1)) | (((with_reducible refine gate_store (t := 318) (p := 0) rfl ?_); go_loud (refine wp_store_blk rfl 318 _ _ rfl rfl sizeW rfl hk1 (rfl) (v := kv) rfl (kv_size) (kv_one) ?_); intro w2 hk2 hg2)))
  have hk3 : Blk w2 w.heap.size 318 (wcs kt) := by
    rw [hkv.out] at hk2
    exact hk2
  refine bodyPost_ret (results_blk1 (cs := wcs kt) rfl aggW sizeW _ rfl hk3 kt_len) rfl ?_
  exact ⟨rfl, hb1.grown hg2 (by omega) (fun r e => by injection e with e; omega)⟩
end Go.Proofs.YtnecgoahdkfbeaaDoor.Sha
