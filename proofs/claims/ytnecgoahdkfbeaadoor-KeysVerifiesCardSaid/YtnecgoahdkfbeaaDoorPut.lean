/- Contracts of the reference's Number and of the law package's spoil and put: any bytes. -/
import Derived.Test.YtnecgoahdkfbeaaDoorOct
namespace Go.Proofs.YtnecgoahdkfbeaaDoor.Oct
open Go Go.RowKit Go.Proofs.YtnecgoahdkfbeaaDoor.Cop
set_option linter.unusedVariables false
set_option linter.unusedSimpArgs false

theorem own_of_blk {base g : Nat} {w : World} {bs : List UInt8} {n : Nat} (h : Blk w g 5 (bcs bs)) (hb : base ≤ g) (hn : bs.length = n) (hm : n ≤ maxLen) : Own base w (.slice (some ⟨g, 0, none⟩) n n) bs := by
  subst hn
  exact ⟨by rw [Nat.mul_one]; exact bcs_length bs, .inr ⟨g, bs.length, (bcs bs).toArray, rfl, hb, h, Nat.le_refl _, hm, by simp [bcs], by rw [Nat.mul_one]; exact List.take_of_length_le (by simp [bcs])⟩⟩

section
variable {ops : Array Oper} {rest : List Oper} {o : Oper} {a : Act} {Q : Exit → Act → World → Prop} {w : World}
/-- make([]byte, n). -/
theorem wp_makeB (hg : o.guard = none) (l c : Operand) (ho : o.op = .makeSlice 48 l c) (n : Nat) (hl : a.eval l = .int .i64 (n : Int)) (hc : a.eval c = .int .i64 (n : Int)) (hn : n ≤ 140737488355328)
    (h : ∀ w', Blk w' w.heap.size 5 (bcs (List.replicate n 0)) → Below w.heap.size w w' → w.heap.size < w'.heap.size → wpList Tryd.prog ops Q rest (a.put o.dst (.slice (some ⟨w.heap.size, 0, none⟩) n n)) w') : wpList Tryd.prog ops Q (o :: rest) a w := by
  obtain ⟨i, hi, hz, hi1, hi2⟩ := info_parts info8
  refine wpList_make_full w hg l c 48 ho w.heap.size 5 i (.int .u8 0) 1 Tryd.underlying48 hi hz hi1 .i64 .i64 _ _ n hl hc rfl rfl (by rw [hi2]; omega) (by unfold maxLen; omega) (Nat.le_refl _) (fun w' h1 h2 => ?_)
  rcases h1.2 with ⟨h0, _⟩ | ⟨g, cap, cur, h0, _, hb, hnc, hm, hs, ht⟩
  · cases h0
  · injection h0 with e1 e2 e3
    injection e1 with e1
    injection e1 with e1
    subst e1
    subst e3
    have hlen : cur.toList.length = n := by simpa using hs
    have hcur : cur.toList = bcs (List.replicate n 0) := by
      have e4 : (madeCells (Value.int .u8 0).cells (n * 1)).toList = bcs (List.replicate n 0) := by
        rw [Nat.mul_one]
        have := toList_madeCells_one (.int .u8 0) n
        rw [show (Value.int .u8 0).cells = #[.int .u8 0] from rfl, this]
        simp [bcs]
      rw [← e4, ← ht, List.take_of_length_le (by omega)]
    refine h w' ?_ (below_grown h2 (Nat.le_refl _) (fun k hk => by cases hk)) (Array.getElem?_eq_some_iff.1 hb).1
    show w'.heap[w.heap.size]? = some (.cells (bcs (List.replicate n 0)).toArray 5 (0, 0))
    rw [hb, ← hcur]
end

/-- The noughts that are left, and the bytes that are laid. -/
def half (x n k : Nat) : List UInt8 := List.replicate k 0 ++ (be x n).drop k
theorem half_length (x n k : Nat) (hk : k ≤ n) : (half x n k).length = n := by simp [half, be_length]; omega
theorem half_set (x n k : Nat) (hk : k + 1 ≤ n) : (half x n (k + 1)).set k (UInt8.ofNat (x / 256 ^ (n - (k + 1)))) = half x n k := by
  unfold half
  rw [List.replicate_succ', List.append_assoc, List.set_append_right _ _ (by simp), List.length_replicate, Nat.sub_self, List.singleton_append, List.set_cons_zero]
  congr 1
  have hlt : k < (be x n).length := by rw [be_length]; omega
  rw [List.drop_eq_getElem_cons hlt]
  congr 1
  simp only [be, List.getElem_map, List.getElem_range]
  rw [show (2 : Nat) ^ (8 * (n - 1 - k)) = 256 ^ (n - 1 - k) from by rw [Nat.pow_mul], show n - 1 - k = n - (k + 1) from by omega]

set_option maxRecDepth 100000 in
theorem number_calls (x n : Nat) (w : World) (hx : x < 18446744073709551616) (hn : n ≤ 8) :
    Calls Tryd.prog 102 #[.int .u64 (x : Int), .int .i64 (n : Int)] w fun e w' => ∃ v, e = .returned v ∧ Own w.heap.size w' v (be x n) ∧ Below w.heap.size w w' := by
  have HX := Lib.hid hx
  clear hx
  go_enter Tryd.func102, Tryd.ntmps102
  go_wp2_with ((with_reducible refine gate_dst (N := 8) rfl ?_); go_loud (refine wp_makeB rfl _ _ rfl n rfl rfl (by omega) ?_); intro w1 hk1 hb1 hz1)
  go_loopw [0, 6] (fun u i wr => ∃ k : Nat, k ≤ n ∧ i = .int .i64 ((k : Int) - 1) ∧ u = .int .u64 ((x / 256 ^ (n - k) : Nat) : Int) ∧ Blk wr w.heap.size 5 (bcs (half x n k)) ∧ Below w.heap.size w wr) (fun _ i _ => (intOf i + 1).toNat)
  case atStart => exact ⟨n, Nat.le_refl _, rfl, by simp, by have e : half x n n = List.replicate n 0 := by { simp [half, be_length] }; rw [e]; exact hk1, hb1⟩
  case round =>
    obtain ⟨k, hk, rfl, rfl, hkb, hbel⟩ := hrel
    cases k with
    | zero =>
      go_wp2
      go_ret
      refine ⟨_, rfl, own_of_blk (by simpa [half] using hkb) (Nat.le_refl _) (be_length x n) (by unfold maxLen; omega), hbel⟩
    | succ k =>
      have e1 : ((k + 1 : Nat) : Int) - 1 = (k : Int) := by omega
      rw [e1]
      clear e1
      obtain ⟨m, hm⟩ : ∃ m, m = x / 256 ^ (n - (k + 1)) := ⟨_, rfl⟩
      rw [← hm]
      have h8 : (m : Int) % 256 = ((UInt8.ofNat m).toNat : Int) := by rw [UInt8.toNat_ofNat']; omega
      have hm2 : m / 256 = x / 256 ^ (n - k) := by
        rw [hm, Nat.div_div_eq_div_mul, ← Nat.pow_succ]
        congr 2; omega
      have HM := Lib.hid hm
      have HM2 := Lib.hid hm2
      have H8 := Lib.hid h8
      have hmb : m < 18446744073709551616 := by rw [hm]; exact Nat.lt_of_le_of_lt (Nat.div_le_self _ _) HX.out
      have HMB := Lib.hid hmb
      clear hm hm2 h8 hmb
      have hlt : k < (bcs (half x n (k + 1))).length := by rw [bcs_length, half_length _ _ _ hk]; omega
      go_wp2_with (((with_reducible refine gate_store (t := 5) (p := 19) rfl ?_); go_loud (refine wp_store_cell rfl 5 _ _ rfl rfl size8 rfl hkb hlt (v := .int .u8 ((m : Int) % 256)) rfl rfl rfl ?_); intro w3 hk3 hg3))
      have hk4 : Blk w3 w.heap.size 5 (bcs (half x n k)) := by
        rw [H8.out, show (bcs (half x n (k + 1))).set k (.int .u8 ((UInt8.ofNat m).toNat : Int)) = bcs (half x n k) from by rw [← half_set x n k hk, ← HM.out]; unfold bcs; rw [List.map_set]] at hk3
        exact hk3
      have hbel3 : Below w.heap.size w w3 := hbel.trans (below_grown hg3 hbel.size (fun j hj => by cases hj; exact Nat.le_refl _))
      have hu : Value.int .u64 (IntKind.u64.wrap ((m : Int) / 256)) = .int .u64 ((x / 256 ^ (n - k) : Nat) : Int) := by
        rw [← HM2.out, IntWalk.u64_in _ (by have := HMB.out; omega)]; rfl
      go_roundw
      case rel => exact ⟨k, by omega, rfl, hu, hk4, hbel3⟩
      case measure => simp [intOf]

/-- A slice of the call's own: its block, cells behind the length besides. -/
theorem own_block {base : Nat} {w : World} {v : Value} {bs : List UInt8} (h : Own base w v bs) :
    (v = .slice none 0 0 ∧ bs = []) ∨ ∃ g cap spare, v = .slice (some ⟨g, 0, none⟩) bs.length cap ∧ base ≤ g ∧ Blk w g 5 (bcs bs ++ spare) ∧ bs.length + spare.length = cap ∧ cap ≤ maxLen := by
  rcases h.2 with ⟨h0, h1⟩ | ⟨g, cap, cur, h0, h1, h2, h3, h4, h5, h6⟩
  · exact .inl ⟨h0, List.eq_nil_of_length_eq_zero h1⟩
  · refine .inr ⟨g, cap, cur.toList.drop bs.length, h0, h1, ?_, ?_, h4⟩
    · rw [Nat.mul_one] at h6
      have : cur.toList = bcs bs ++ cur.toList.drop bs.length := by rw [← h6, List.take_append_drop]
      unfold Blk
      rw [← this, h2]
    · have e : cur.toList.length = cap := by simpa using h5
      rw [List.length_drop, e]; omega
theorem own_of_block {base g cap : Nat} {w : World} {bs : List UInt8} {spare : List Value} (h : Blk w g 5 (bcs bs ++ spare)) (hb : base ≤ g) (hc : bs.length + spare.length = cap) (hm : cap ≤ maxLen) : Own base w (.slice (some ⟨g, 0, none⟩) bs.length cap) bs :=
  ⟨by rw [Nat.mul_one]; exact bcs_length bs, .inr ⟨g, cap, (bcs bs ++ spare).toArray, rfl, hb, h, by omega, hm, by simp [bcs_length]; omega, by rw [Nat.mul_one]; simp [← bcs_length bs]⟩⟩

end Go.Proofs.YtnecgoahdkfbeaaDoor.Oct
