/- Contracts of package octet's numbers: put, get, room and what stands on them; any bytes, any place. -/
import Derived.Test.YtnecgoahdkfbeaaDoorByt
namespace Go.Proofs.YtnecgoahdkfbeaaDoor.Oct
open Go Go.RowKit Go.Proofs.YtnecgoahdkfbeaaDoor.Cop

/-- slices.Clone of bytes. -/
theorem clone (v : Value) (bs : List UInt8) (w : World) (h : Bs w v bs) : Calls Tryd.prog 151 #[v] w (RetRow 5 1 bs.length (bcs bs) w) := by
  cases hn : isNil v with
  | true =>
    obtain ⟨h0, h1⟩ := nil_empty h.1 hn
    go_enter Tryd.func151, Tryd.ntmps151
    go_wp2_with (first | ((with_reducible refine gate_dst (N := 4) rfl ?_); refine wp_eql_nil rfl _ _ _ 5 _ _ rfl Tryd.underlying48 rfl h.1 hn ?_))
    go_ret
    refine ⟨_, rfl, ?_, Below.refl _ _⟩
    rw [h0, h1]
    exact World.ownsRow_nil _ _ _ _
  | false =>
    have hb := h.2
    go_enter Tryd.func151, Tryd.ntmps151
    go_wp2_with (first | ((with_reducible refine gate_dst (N := 4) rfl ?_); refine wp_eql_nil rfl _ _ _ 5 _ _ rfl Tryd.underlying48 rfl h.1 hn ?_) | ((with_reducible refine gate_dst (N := 7) rfl ?_); refine wp_append rfl (.tmp 5) (.tmp 6) 48 5 rfl Tryd.underlying48 info8 rfl (by decide) (base := w.heap.size) (n := 0) (xs := []) rfl (World.ownsRow_made w #[] 0 (Nat.le_refl _) (Nat.zero_le _) rfl) rfl (h.1.alloc _) (by rw [Nat.mul_one]; exact bcs_length bs) (bcs_one bs) (by unfold maxLen; omega) (by omega) (by simp) ?_; intro v' w1 hown hgrow))
    go_ret
    refine ⟨_, rfl, by simpa using hown, ?_⟩
    refine ((Below.refl _ _).alloc (Nat.le_refl _) _).grown hgrow (by simp) (fun k hk => ?_)
    have e : some w.heap.size = some k := hk
    cases e
    exact Nat.le_refl _

/-- The last n bytes of a number, the highest first. -/
def be (v n : Nat) : List UInt8 := (List.range n).map fun j => UInt8.ofNat (v / 2 ^ (8 * (n - 1 - j)))

theorem be_length (v n : Nat) : (be v n).length = n := by simp [be]
theorem be_take (v n k : Nat) (hk : k < n) : (be v n).take (n - (k + 1)) ++ [UInt8.ofNat (v / 2 ^ (8 * k))] = (be v n).take (n - k) := by
  have e : n - k = n - (k + 1) + 1 := by omega
  rw [e, List.take_add_one]
  congr 1
  have : n - (k + 1) < n := by omega
  simp only [be, List.getElem?_map, List.getElem?_range this, Option.map_some, Option.toList_some]
  congr 4
  omega

set_option maxRecDepth 100000 in
theorem put (v : Value) (bs : List UInt8) (x : Nat) (n : Nat) (w : World) (h : Bs w v bs) (hx : x < 18446744073709551616) (hn : n ≤ 8) :
    Calls Tryd.prog 150 #[v, .int .u64 (x : Int), .int .i64 (n : Int)] w (RetRow 5 1 (bs.length + n) (bcs (bs ++ be x n)) w) := by
  have hb := h.2
  have HX := Lib.hid hx
  clear hx
  go_enter Tryd.func150, Tryd.ntmps150
  go_wp2_with fail
  refine (clone v bs w h).mono ?_
  rintro e w1 ⟨v1, rfl, hown1, hb1⟩
  go_wp2_with fail
  go_loopw [7, 8] (fun u i wr => ∃ k : Nat, k ≤ n ∧ i = .int .i64 ((k : Int) - 1) ∧ wr.ownsRow w.heap.size 5 1 u (bs.length + (n - k)) (bcs (bs ++ (be x n).take (n - k))) ∧ Below w.heap.size w wr) (fun _ i _ => (intOf i + 1).toNat)
  case atStart => exact ⟨n, Nat.le_refl _, rfl, by simpa using hown1, hb1⟩
  case round =>
    obtain ⟨k, hk, rfl, hown, hbel⟩ := hrel
    cases k with
    | zero =>
      go_wp2
      go_ret
      refine ⟨_, rfl, ?_, hbel⟩
      have := hown
      rwa [Nat.sub_zero, List.take_of_length_le (by rw [be_length]; omega)] at this
    | succ k =>
      have e1 : ((k + 1 : Nat) : Int) - 1 = (k : Int) := by omega
      rw [e1]
      clear e1
      have hc : (x : Int) / 2 ^ (8 * k) % 256 = ((UInt8.ofNat (x / 2 ^ (8 * k))).toNat : Int) := by
        rw [UInt8.toNat_ofNat']
        have : ((x / 2 ^ (8 * k) % 2 ^ 8 : Nat) : Int) = (x : Int) / 2 ^ (8 * k) % 256 := by simp
        rw [← this]
      have HC := Lib.hid hc
      clear hc
      go_wp2_with (first | ((with_reducible refine gate_dst (N := 24) rfl ?_); (refine wp_append rfl (.tmp 17) (.tmp 23) 48 5 rfl Tryd.underlying48 info8 rfl (by decide) (base := w.heap.size) (n := bs.length + (n - (k + 1))) (xs := bcs (bs ++ (be x n).take (n - (k + 1)))) rfl (hown.alloc _) rfl (Row.one _ _ _) rfl (one_one rfl) (by unfold maxLen; omega) (by omega) (by have := hbel.size; simp; omega) ?_); intro v' w2 hown2 hgrow2))
      have hbel2 : Below w.heap.size w w2 := (hbel.alloc hbel.size _).grown hgrow2 (by have := hbel.size; simp; omega) (fun j hj => (hown.lt j hj).1)
      have hown3 : w2.ownsRow w.heap.size 5 1 v' (bs.length + (n - k)) (bcs (bs ++ (be x n).take (n - k))) := by
        have e2 : bs.length + (n - (k + 1)) + 1 = bs.length + (n - k) := by omega
        rw [e2, HC.out] at hown2
        rw [← be_take x n k (by omega), ← List.append_assoc, bcs_append _ [_]]
        exact hown2
      clear hown2 hgrow2 hown HC
      go_wp2
      go_roundw
      case rel => exact ⟨k, by omega, rfl, hown3, hbel2⟩
      case measure => simp [intOf]

theorem put32 (v : Value) (bs : List UInt8) (x : Nat) (w : World) (h : Bs w v bs) (hx : x < 4294967296) :
    Calls Tryd.prog 146 #[v, .int .u32 (x : Int)] w (RetRow 5 1 (bs.length + 4) (bcs (bs ++ be x 4)) w) := by
  have e1 : IntKind.u64.wrap (x : Int) = (x : Int) := IntWalk.u64_in _ (by omega)
  go_enter Tryd.func146, Tryd.ntmps146
  go_wp2_with (go_at_call 150; refine (put v bs x 4 w h (by omega) (by omega)).mono ?_; rintro e w1 ⟨v1, rfl, hown1, hb1⟩)
  go_ret
  exact ⟨_, rfl, hown1, hb1⟩

theorem put64 (v : Value) (bs : List UInt8) (x : Nat) (w : World) (h : Bs w v bs) (hx : x < 18446744073709551616) :
    Calls Tryd.prog 85 #[v, .int .u64 (x : Int)] w (RetRow 5 1 (bs.length + 8) (bcs (bs ++ be x 8)) w) := by
  have HX := Lib.hid hx
  clear hx
  go_enter Tryd.func85, Tryd.ntmps85
  go_wp2_with (go_at_call 150; refine (put v bs x 8 w h HX.out (by omega)).mono ?_; rintro e w1 ⟨v1, rfl, hown1, hb1⟩)
  go_ret
  exact ⟨_, rfl, hown1, hb1⟩

set_option maxRecDepth 100000 in
theorem putD (v : Value) (bs d : List UInt8) (w : World) (h : Bs w v bs) (hd : d.length = 32) :
    Calls Tryd.prog 130 #[v, dg d] w (RetRow 5 1 (bs.length + 32) (bcs (bs ++ d)) w) := by
  have hb := h.2
  go_enter Tryd.func130, Tryd.ntmps130
  go_wp2_with fail
  go_region_law (first | (refine step_append rfl (.tmp 6) (.tmp 7) 48 5 rfl Tryd.underlying48 info8 rfl (by decide) (base := w.heap.size) (n := bs.length) (xs := bcs bs) rfl hown2 (m := 32) (cs := bcs d) rfl hrow2 (by rw [bcs_length, hd]) (bcs_one d) (by unfold maxLen; omega) (by omega) (by have := hb1.size; simp at this; omega) ?_; intro v' w2 hown3 hgrow2) | (go_simp; go_at_call 151; refine (clone v bs _ (by exact h.alloc _)).mono ?_; rintro e w1 ⟨v1, rfl, hown1, hb1⟩; have hown2 : w1.ownsRow w.heap.size 5 1 v1 bs.length (bcs bs) := own_mono hown1 (by simp); have hrow2 : Row w1 (.slice (some ⟨w.heap.size, 0, none⟩) 32 32) 32 (bcs d) := Row.below (w := (w.alloc (.cells (bcs d).toArray 45)).drew) (by exact Row.lit w (bcs d) 45 32 (by unfold maxLen; omega)) hb1))
  go_wp2
  go_ret
  refine ⟨_, rfl, by rw [bcs_append]; exact hown3, ?_⟩
  refine Below.grown (((Below.refl w.heap.size w).alloc (Nat.le_refl _) _).drew.trans (hb1.mono (by simp))) hgrow2 (by have := hb1.size; simp at this; omega) (fun j hj => (hown2.lt j hj).1)
end Go.Proofs.YtnecgoahdkfbeaaDoor.Oct
