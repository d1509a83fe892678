/- The padding, the program's and the reference's; the reference's Over. -/
import Derived.Test.YtnecgoahdkfbeaaDoorShaU
namespace Go.Proofs.YtnecgoahdkfbeaaDoor.Sha
open Go Go.RowKit Go.Proofs.YtnecgoahdkfbeaaDoor.Cop Go.Proofs.YtnecgoahdkfbeaaDoor.Oct
set_option linter.unusedVariables false
set_option linter.unusedSimpArgs false
def lenOf (v : Value) : Nat := match v with | .slice _ n _ => n | _ => 0
/-- What Padding hands back. -/
def PadRet (n : Nat) (w : World) (e : Ending) (w' : World) : Prop := ∃ v, e = .returned (.tuple #[v, .int .i64 0]) ∧ Own w.heap.size w' v (padB n) ∧ Below w.heap.size w w'
set_option maxRecDepth 100000 in
set_option maxHeartbeats 1000000 in
theorem pad_calls (n : Nat) (w : World) (hn : n ≤ 140737488355328) : Calls Tryd.prog 227 #[.int .i64 (n : Int)] w (PadRet n w) := by
  obtain ⟨z, hz⟩ : ∃ z, zeros n = z := ⟨_, rfl⟩
  have hz1 : (119 - (n : Int) % 64) % 64 = (z : Int) := by rw [← hz]; unfold zeros; omega
  have hz2 : z < 64 := by rw [← hz]; exact zeros_lt n
  have hpad : padB n = (128 :: List.replicate z 0) ++ be (n * 8) 8 := by rw [← hz]; rfl
  have HP := Lib.hid hpad
  have d1 : decide ((n : Int) < 0) = false := decide_eq_false (by omega)
  have d2 : decide ((2305843009213693951 : Int) < (n : Int)) = false := decide_eq_false (by omega)
  have hn2 : (n : Int) * 8 < 18446744073709551616 := by omega
  clear hz hpad
  unfold PadRet
  go_enter Tryd.func227, Tryd.ntmps227
  go_wp2_with (first | ((with_reducible refine gate_dst (N := 22) rfl ?_); go_loud (refine wp_makeLC rfl _ _ rfl (1 + z) (1 + z + 8) rfl rfl (by omega) (by omega) ?_); intro w1 hk1 hb1 hs1) | ((with_reducible refine gate_store (t := 5) (p := 24) rfl ?_); go_loud (refine wp_store_cell rfl 5 _ _ rfl rfl size8 rfl hk1 (i := 0) (by rw [bcs_length, List.length_replicate]; omega) (v := .int .u8 128) rfl rfl rfl ?_); intro w2 hk2 hg2))
  have hk3 : Blk w2 w.heap.size 5 (bcs (128 :: List.replicate z 0) ++ bcs (List.replicate 8 0)) := by
    have e : (bcs (List.replicate (1 + z + 8) 0)).set 0 (.int .u8 128) = bcs (128 :: List.replicate z 0) ++ bcs (List.replicate 8 0) := by
      rw [show 1 + z + 8 = (z + 8) + 1 from by omega, List.replicate_succ]
      show (Value.int .u8 128) :: bcs (List.replicate (z + 8) 0) = _
      rw [← List.replicate_append_replicate]
      simp [bcs, u8c]
    rw [e] at hk2
    exact hk2
  have hown0 : Own w.heap.size w2 (.slice (some ⟨w.heap.size, 0, none⟩) (1 + z) (1 + z + 8)) (128 :: List.replicate z 0) := by
    have := own_of_block (base := w.heap.size) (cap := 1 + z + 8) hk3 (Nat.le_refl _) (by simp [bcs]; omega) (by unfold maxLen; omega)
    have e : (128 :: List.replicate z (0 : UInt8)).length = 1 + z := by simp; omega
    rw [e] at this
    exact this
  have hb2 : Below w.heap.size w w2 := hb1.grown hg2 (by omega) (fun r e => by injection e with e; omega)
  clear hk1 hb1 hs1 hk2 hg2 hk3 d1 d2 hz1
  go_loopw [5, 6] (fun u i wr => ∃ k : Nat, k ≤ 8 ∧ i = .int .i64 ((k : Int) - 1) ∧ Own w.heap.size wr u ((128 :: List.replicate z 0) ++ (be (n * 8) 8).take (8 - k)) ∧ Below w.heap.size w wr) (fun _ i _ => (intOf i + 1).toNat)
  case atStart => exact ⟨8, Nat.le_refl _, rfl, by simpa using hown0, hb2⟩
  case round =>
    clear hown0 hb2
    obtain ⟨k, hk, rfl, hown, hbel⟩ := hrel
    cases k with
    | zero =>
      go_wp2
      go_ret2
      refine ⟨_, rfl, ?_, hbel⟩
      rw [HP.out]
      rwa [Nat.sub_zero, List.take_of_length_le (by rw [be_length]; omega)] at hown
    | succ k =>
      have e1 : ((k + 1 : Nat) : Int) - 1 = (k : Int) := by omega
      rw [e1]
      clear e1
      obtain ⟨x, hx⟩ : ∃ x, n * 8 = x := ⟨_, rfl⟩
      have hx2 : (n : Int) * 8 = (x : Int) := by omega
      have hc : (x : Int) / 2 ^ (8 * k) % 256 = ((UInt8.ofNat (x / 2 ^ (8 * k))).toNat : Int) := by
        rw [UInt8.toNat_ofNat']
        have : ((x / 2 ^ (8 * k) % 2 ^ 8 : Nat) : Int) = (x : Int) / 2 ^ (8 * k) % 256 := by simp
        rw [← this]
      have HC := Lib.hid hc
      rw [hx] at hown
      have HX := Lib.hid hx
      have hbl : ((be x 8).take (8 - (k + 1))).length ≤ 8 := by rw [List.length_take, be_length]; omega
      clear hc hx
      go_wp2_with (((with_reducible refine gate_dst (N := 38) rfl ?_); go_loud (refine wp_appB rfl (.tmp 29) (.tmp 37) rfl (hown.alloc _) rfl (lit1 _ _ HC.out) rfl (by simp only [List.length_append, List.length_cons, List.length_replicate, List.length_nil]; omega) (by have := hbel.size; simp; omega) ?_); intro v' w3 hown3 hgrow3))
      have hbel3 : Below w.heap.size w w3 := (hbel.alloc hbel.size _).grown hgrow3 (by have := hbel.size; simp; omega) (fun r e => (World.ownsRow.lt hown r e).1)
      have hown4 : Own w.heap.size w3 v' ((128 :: List.replicate z 0) ++ (be (n * 8) 8).take (8 - k)) := by
        rw [HX.out, ← be_take x 8 k (by omega), ← List.append_assoc]
        exact hown3
      clear hown3 hgrow3 hown HC hx2
      go_wp2
      go_roundw
      case rel => exact ⟨k, by omega, rfl, hown4, hbel3⟩
      case measure => simp [intOf]
set_option maxRecDepth 100000 in
set_option maxHeartbeats 1000000 in
theorem rpad_calls (n : Nat) (w : World) (hn : n ≤ 140737488355328) : Calls Tryd.prog 230 #[.int .i64 (n : Int)] w (PadRet n w) := by
  obtain ⟨z, hz⟩ : ∃ z, zeros n = z := ⟨_, rfl⟩
  have hz2 : z < 64 := by rw [← hz]; exact zeros_lt n
  have hz3 : (n + 9 + z) % 64 = 0 := by rw [← hz]; unfold zeros; omega
  have hpad : padB n = (128 :: List.replicate z 0) ++ be (n * 8) 8 := by rw [← hz]; rfl
  have HP := Lib.hid hpad
  have HZ3 := Lib.hid hz3
  have d1 : decide ((n : Int) < 0) = false := decide_eq_false (by omega)
  have d2 : decide ((2305843009213693951 : Int) < (n : Int)) = false := decide_eq_false (by omega)
  have hn2 : (n : Int) * 8 < 18446744073709551616 := by omega
  clear hz hpad hz3
  unfold PadRet
  go_enter Tryd.func230, Tryd.ntmps230
  go_wp2_with fail
  have hown0 : Own w.heap.size (w.alloc (.cells #[.int .u8 128] 5)) (.slice (some ⟨w.heap.size, 0, none⟩) 1 1) [128] := own_of_blk (Blk.new w (bcs [128]) 5) (Nat.le_refl _) rfl (by unfold maxLen; omega)
  clear d1 d2
  go_loopw [4] (fun u wr => ∃ k : Nat, k ≤ z ∧ Own w.heap.size wr u (128 :: List.replicate k 0) ∧ Below w.heap.size w wr) (fun u _ => 64 - (lenOf u))
  case atStart => exact ⟨0, Nat.zero_le _, hown0, (Below.refl _ _).alloc (Nat.le_refl _) _⟩
  case round =>
    clear hown0
    obtain ⟨k, hk, hown, hbel⟩ := hrel
    have hlenk : (128 :: List.replicate k (0 : UInt8)).length = k + 1 := by simp
    obtain ⟨out, hout⟩ : ∃ out, 128 :: List.replicate k (0 : UInt8) = out := ⟨_, rfl⟩
    rw [hout] at hown hlenk
    have hlu : lenOf u4 = out.length := by
      obtain ⟨_, _, rfl, _⟩ := hown.rd.open
      rfl
    have HLU := Lib.hid hlu
    have HOUT := Lib.hid hout
    have HLK := Lib.hid hlenk
    have hol : out.length ≤ 65 := by omega
    have hor : (n % 64 + out.length + 8) % 64 = (n % 64 + k + 9) % 64 := by omega
    have HOR := Lib.hid hor
    clear hlu hout hlenk hor
    obtain ⟨r, hr⟩ : ∃ r : Nat, ((n : Int) % 64 + (out.length : Int) + 8) % 64 = (r : Int) := ⟨(n % 64 + out.length + 8) % 64, by omega⟩
    by_cases hkz : k < z
    · have hr0 : ((r : Int) != 0) = true := by
        have h1 := HZ3.out
        have h2 := HLK.out
        have : (r : Int) ≠ 0 := by omega
        simpa using this
      have HRK := Lib.hid hkz
      clear hkz
      go_wp2_with (first | ((with_reducible refine gate_dst (N := 13) rfl ?_); go_loud (refine wp_lenB rfl _ rfl hown.rd rfl ?_)) | (((with_reducible refine gate_dst (N := 20) rfl ?_); go_loud (refine wp_appB rfl (.tmp 18) (.tmp 19) rfl (hown.alloc _) rfl (lit1 _ _ (b := 0) rfl) rfl (by simp only [List.length_cons, List.length_nil]; omega) (by have := hbel.size; simp; omega) ?_); intro v' w3 hown3 hgrow3)))
      have hbel3 : Below w.heap.size w w3 := (hbel.alloc hbel.size _).grown hgrow3 (by have := hbel.size; simp; omega) (fun r e => (World.ownsRow.lt hown r e).1)
      have hown4 : Own w.heap.size w3 v' (128 :: List.replicate (k + 1) 0) := by
        rw [List.replicate_succ', ← List.cons_append, HOUT.out]
        exact hown3
      have hlv : lenOf v' = out.length + 1 := by
        obtain ⟨_, _, rfl, _⟩ := hown3.rd.open
        simp [lenOf]
      have HLV := Lib.hid hlv
      clear hown3 hgrow3 hown hr hr0 hlv
      go_roundw
      case rel => exact ⟨k + 1, by have := HRK.out; omega, hown4, hbel3⟩
      case measure => rw [HLU.out, HLV.out]; have := HRK.out; have := HLK.out; omega
    · have hkz2 : k = z := by omega
      have hr0 : ((r : Int) != 0) = false := by
        have h1 := HZ3.out
        have h2 := HLK.out
        have : (r : Int) = 0 := by omega
        simpa using this
      have hq := HOUT.out
      rw [hkz2] at hq
      have HQ := Lib.hid hq
      have HKZ := Lib.hid hkz2
      clear hkz hq hkz2
      go_wp2_with (first | ((with_reducible refine gate_dst (N := 13) rfl ?_); go_loud (refine wp_lenB rfl _ rfl hown.rd rfl ?_)) | (go_at_call 102; go_loud (refine (number_calls (n * 8) 8 _ (by omega) (by omega)).mono ?_); rintro e w2 ⟨vn, rfl, hn', hb2⟩; have hown2 := own_below hown hb2) | (((with_reducible refine gate_dst (N := 26) rfl ?_); go_loud (refine wp_appB rfl (.tmp 21) (.tmp 25) rfl hown2 rfl hn'.rd rfl (by have hq := be_length (n * 8) 8; show out.length + (be (n * 8) 8).length ≤ _; omega) (by have := hb2.size; have := hbel.size; omega) ?_); intro v' w3 hown3 hgrow3)))
      have hs2 := hb2.size
      have hbel3 : Below w.heap.size w w3 := (hbel.trans (hb2.mono hbel.size)).grown hgrow3 (by have := hbel.size; omega) (fun r e => (World.ownsRow.lt hown2 r e).1)
      go_ret2
      refine ⟨_, rfl, ?_, hbel3⟩
      rw [HP.out, HQ.out]
      exact hown3
end Go.Proofs.YtnecgoahdkfbeaaDoor.Sha
