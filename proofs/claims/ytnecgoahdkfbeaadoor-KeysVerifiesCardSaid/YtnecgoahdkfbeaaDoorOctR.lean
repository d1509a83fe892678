/- Contracts of package octet's reading of numbers and digests, and of the reference's: any bytes, any place. -/
import Derived.Test.YtnecgoahdkfbeaaDoorOct
namespace Go.Proofs.YtnecgoahdkfbeaaDoor.Oct
open Go Go.RowKit Go.Proofs.YtnecgoahdkfbeaaDoor.Cop
set_option linter.unusedVariables false
set_option linter.unusedSimpArgs false

/-- Why there are not n bytes at a place. -/
def room (l : Nat) (p : Int) (n : Nat) : Int := if p < 0 then 2 else if (l : Int) < p then 2 else if (l : Int) - p < n then 10 else 0

theorem room_calls (v : Value) (bs : List UInt8) (p : Int) (n : Nat) (w : World) (h : Bs w v bs) (hp : -9223372036854775808 ≤ p) (hn : n ≤ 64) :
    Calls Tryd.prog 178 #[v, .int .i64 p, .int .i64 (n : Int)] w fun e w' => e = .returned (.int .i64 (room bs.length p n)) ∧ w = w' := by
  have hb := h.2
  obtain ⟨a, cap, rfl, hr⟩ := h.1.open
  unfold room
  by_cases c1 : p < 0
  · rw [if_pos c1]
    go_enter Tryd.func178, Tryd.ntmps178
    go_wp2
    go_ret
    exact ⟨rfl, rfl⟩
  · rw [if_neg c1]
    by_cases c2 : (bs.length : Int) < p
    · rw [if_pos c2]
      have d1 : decide (p < 0) = false := decide_eq_false c1
      go_enter Tryd.func178, Tryd.ntmps178
      go_wp2
      go_ret
      exact ⟨rfl, rfl⟩
    · rw [if_neg c2]
      have d1 : decide (p < 0) = false := decide_eq_false c1
      by_cases c3 : (bs.length : Int) - p < n
      · rw [if_pos c3]
        go_enter Tryd.func178, Tryd.ntmps178
        go_wp2
        go_ret
        exact ⟨rfl, rfl⟩
      · rw [if_neg c3]
        go_enter Tryd.func178, Tryd.ntmps178
        go_wp2
        go_ret
        exact ⟨rfl, rfl⟩

/-- The number that bytes write, the highest first. -/
def num (l : List UInt8) : Nat := l.foldl (fun v b => v * 256 + b.toNat) 0
theorem num_snoc (l : List UInt8) (b : UInt8) : num (l ++ [b]) = num l * 256 + b.toNat := by simp [num]
theorem num_lt (l : List UInt8) : num l < 256 ^ l.length := by
  induction l using snoc_ind with
  | h0 => simp [num]
  | h1 l b ih =>
    rw [num_snoc, List.length_append, List.length_singleton, Nat.pow_succ]
    have := b.toNat_lt
    omega
theorem num_take_lt (l : List UInt8) (k n : Nat) (hk : k ≤ n) : num (l.take k) < 256 ^ n := by
  have h1 := num_lt (l.take k)
  have h2 : (l.take k).length ≤ n := by rw [List.length_take]; omega
  exact Nat.lt_of_lt_of_le h1 (Nat.pow_le_pow_right (by decide) h2)

theorem or_byte (v b : Nat) (hv : v < 72057594037927936) (hb : b < 256) : bits .or .u64 ((v : Int) * 256) (b : Int) = ((v * 256 + b : Nat) : Int) := by
  have := bits_join .u64 64 (by decide) (fun n h0 h1 => IntWalk.u64_in n (by omega)) 8 ((v : Int) * 256) (b : Int) (by omega) (by omega) (by omega) (by omega) (by omega) (by omega)
  rw [this]; omega

/-- What get does. -/
def GetR (k : IntKind) (bs : List UInt8) (p : Int) (n : Nat) (w : World) (e : Ending) (w' : World) : Prop :=
  w = w' ∧ e = .returned (if room bs.length p n = 0 then .tuple #[.int k (num ((bs.drop p.toNat).take n) : Int), .int .i64 (p + n), .int .i64 0] else .tuple #[.int k 0, .int .i64 0, .int .i64 (room bs.length p n)])

theorem room_zero {l : Nat} {p : Int} {n : Nat} (h : room l p n = 0) : 0 ≤ p ∧ p + n ≤ l := by
  unfold room at h
  split at h; · omega
  split at h; · omega
  split at h; · omega
  omega

set_option maxRecDepth 100000 in
theorem get_calls (v : Value) (bs : List UInt8) (p : Int) (n : Nat) (w : World) (h : Bs w v bs) (hp : -9223372036854775808 ≤ p) (hn : n ≤ 8) :
    Calls Tryd.prog 184 #[v, .int .i64 p, .int .i64 (n : Int)] w (GetR .u64 bs p n w) := by
  have hb := h.2
  by_cases c : room bs.length p n = 0
  · obtain ⟨hp0, hp1⟩ := room_zero c
    obtain ⟨q, rfl⟩ := Int.eq_ofNat_of_zero_le hp0
    go_enter Tryd.func184, Tryd.ntmps184
    go_wp2_with fail
    refine (room_calls v bs q n w h (by omega) (by omega)).mono ?_
    rintro e w' ⟨rfl, rfl⟩
    rw [c]
    go_wp2_with (first | ((with_reducible refine gate_dst (N := 24) rfl ?_); refine wp_slice rfl 48 5 _ _ _ rfl Tryd.underlying48 size8 rfl h.1 (by rw [Nat.mul_one]; exact bcs_length bs) q (q + n) (.inr ⟨_, rfl⟩) (.inr ⟨_, rfl⟩) (by omega) (by omega) ?_; intro v' hr') | ((with_reducible refine gate_dst (N := 25) rfl ?_); refine wp_len rfl _ _ 5 rfl Tryd.underlying48 rfl hr' ?_))
    have hl : ((bs.drop q).take n).length = n := by rw [List.length_take, List.length_drop]; omega
    rw [Nat.mul_one, Nat.mul_one, Nat.add_sub_cancel_left, bcs_cut] at hr'
    generalize hgl : (bs.drop q).take n = l at hr' hl
    have HL := Lib.hid hgl
    have HN := Lib.hid hl
    clear hgl hl
    go_loop [6, 26] (fun u i => ∃ k : Nat, k ≤ n ∧ i = .int .i64 (k : Int) ∧ u = .int .u64 (num (l.take k) : Int)) (fun _ i => n - (intOf i).toNat)
    case atStart => exact ⟨0, Nat.zero_le _, rfl, rfl⟩
    case round =>
      obtain ⟨k, hk, rfl, rfl⟩ := hrel
      by_cases hlt : k < n
      · have hkl : k < l.length := by rw [HN.out]; exact hlt
        have h56 : (num (l.take k) : Int) < 72057594037927936 := by
          have := num_take_lt l k 7 (by omega)
          exact Int.ofNat_lt.2 this
        have hor : bits .or .u64 ((num (l.take k) : Int) * 256) (l[k].toNat : Int) = (num (l.take (k + 1)) : Int) := by
          rw [take_snoc l k hkl, num_snoc]
          exact or_byte _ _ (by omega) l[k].toNat_lt
        have hb8 : (l[k].toNat : Int) < 256 := by have := l[k].toNat_lt; omega
        go_wp2_with (first | ((with_reducible refine gate_dst (N := 28) rfl ?_); (refine wp_index_load rfl (fun _ => rfl) 48 5 _ _ 28 rfl rfl rfl Tryd.underlying48 size8 agg8 rfl rfl hr' (by rw [bcs_length]; exact HN.out) (fun _ => rfl) (by omega) (by omega) (bcs_at l k hkl) ?_); intro p28))
        go_round
        case rel => exact ⟨k + 1, by omega, by go_num, rfl⟩
        case measure => simp [intOf]; omega
      · go_wp2
        go_ret3
        have hkn : k = n := by omega
        subst hkn
        refine ⟨rfl, ?_⟩
        rw [if_pos c, Int.toNat_natCast, HL.out]
        simp only [List.take_of_length_le (Nat.le_of_eq HN.out)]
        rfl
  · have HC := Lib.hid c
    clear c
    have hne : (room bs.length p n != 0) = true := by rw [bne_iff_ne]; exact HC.out
    go_enter Tryd.func184, Tryd.ntmps184
    go_wp2_with fail
    refine (room_calls v bs p n w h (by omega) (by omega)).mono ?_
    rintro e w' ⟨rfl, rfl⟩
    go_wp2
    go_ret3
    exact ⟨rfl, by rw [if_neg HC.out]; rfl⟩

/-- Uint16, Uint32, Uint64. -/
theorem g64_calls (v : Value) (bs : List UInt8) (p : Int) (w : World) (h : Bs w v bs) (hp : -9223372036854775808 ≤ p) :
    Calls Tryd.prog 196 #[v, .int .i64 p] w (GetR .u64 bs p 8 w) := by
  go_enter Tryd.func196, Tryd.ntmps196
  go_wp2_with fail
  refine (get_calls v bs p 8 w h hp (by omega)).mono ?_
  rintro e w' ⟨rfl, rfl⟩
  by_cases c : room bs.length p 8 = 0
  · rw [if_pos c]
    go_wp2
    go_ret3
    exact ⟨rfl, by rw [if_pos c]; rfl⟩
  · rw [if_neg c]
    have HC := Lib.hid c
    clear c
    go_wp2
    go_ret3
    exact ⟨rfl, by rw [if_neg HC.out]; rfl⟩

theorem g32_calls (v : Value) (bs : List UInt8) (p : Int) (w : World) (h : Bs w v bs) (hp : -9223372036854775808 ≤ p) :
    Calls Tryd.prog 128 #[v, .int .i64 p] w (GetR .u32 bs p 4 w) := by
  have hb : (num ((bs.drop p.toNat).take 4) : Int) < 4294967296 := Int.ofNat_lt.2 (num_take_lt _ 4 4 (Nat.le_refl _))
  go_enter Tryd.func128, Tryd.ntmps128
  go_wp2_with fail
  refine (get_calls v bs p 4 w h hp (by omega)).mono ?_
  rintro e w' ⟨rfl, rfl⟩
  by_cases c : room bs.length p 4 = 0
  · rw [if_pos c]
    go_wp2
    go_ret3
    exact ⟨rfl, by rw [if_pos c]; rfl⟩
  · rw [if_neg c]
    have HC := Lib.hid c
    clear c
    go_wp2
    go_ret3
    exact ⟨rfl, by rw [if_neg HC.out]; rfl⟩

theorem mul_byte (v b : Nat) (hv : v < 72057594037927936) (hb : b < 256) : IntKind.u64.wrap ((v : Int) * 256 + (b : Int)) = ((v * 256 + b : Nat) : Int) := by
  rw [IntWalk.u64_in _ (by omega)]; omega

set_option maxRecDepth 100000 in
theorem rread_calls (v : Value) (bs : List UInt8) (p : Int) (n : Nat) (w : World) (h : Bs w v bs) (hp : -9223372036854775808 ≤ p) (hn : n ≤ 8) :
    Calls Tryd.prog 73 #[v, .int .i64 p, .int .i64 (n : Int)] w (GetR .u64 bs p n w) := by
  have hb := h.2
  have hr := h.1
  obtain ⟨a, cap, rfl, hr2⟩ := h.1.open
  clear h
  by_cases c1 : p < 0
  · have hroom : room bs.length p n = 2 := by unfold room; rw [if_pos c1]
    have HR := Lib.hid hroom
    clear hroom
    go_enter Tryd.func73, Tryd.ntmps73
    go_wp2
    go_ret3
    exact ⟨rfl, by rw [HR.out]; rfl⟩
  · have d1 : decide (p < 0) = false := decide_eq_false c1
    by_cases c2 : (bs.length : Int) < p
    · have hroom : room bs.length p n = 2 := by unfold room; rw [if_neg c1, if_pos c2]
      have HR := Lib.hid hroom
      clear hroom
      go_enter Tryd.func73, Tryd.ntmps73
      go_wp2
      go_ret3
      exact ⟨rfl, by rw [HR.out]; rfl⟩
    · by_cases c3 : (bs.length : Int) - p < n
      · have hroom : room bs.length p n = 10 := by unfold room; rw [if_neg c1, if_neg c2, if_pos c3]
        have HR := Lib.hid hroom
        clear hroom
        go_enter Tryd.func73, Tryd.ntmps73
        go_wp2
        go_ret3
        exact ⟨rfl, by rw [HR.out]; rfl⟩
      · have hroom : room bs.length p n = 0 := by unfold room; rw [if_neg c1, if_neg c2, if_neg c3]
        obtain ⟨q, rfl⟩ := Int.eq_ofNat_of_zero_le (show 0 ≤ p by omega)
        have hl : ((bs.drop q).take n).length = n := by rw [List.length_take, List.length_drop]; omega
        have HR := Lib.hid hroom
        have HL := Lib.hid hl
        clear hroom hl c1 c2
        go_enter Tryd.func73, Tryd.ntmps73
        go_wp2_with fail
        go_loop [9, 10] (fun u i => ∃ k : Nat, k ≤ n ∧ i = .int .i64 (k : Int) ∧ u = .int .u64 (num (((bs.drop q).take n).take k) : Int)) (fun _ i => n - (intOf i).toNat)
        case atStart => exact ⟨0, Nat.zero_le _, rfl, rfl⟩
        case round =>
          obtain ⟨k, hk, rfl, rfl⟩ := hrel
          by_cases hlt : k < n
          · have hkl : k < ((bs.drop q).take n).length := by rw [HL.out]; exact hlt
            have hqk : q + k < bs.length := by omega
            have h56 : (num (((bs.drop q).take n).take k) : Int) < 72057594037927936 := by
              have := num_take_lt ((bs.drop q).take n) k 7 (by omega)
              exact Int.ofNat_lt.2 this
            have hor : (num (((bs.drop q).take n).take k) : Int) * 256 + (bs[q + k].toNat : Int) = (num (((bs.drop q).take n).take (k + 1)) : Int) := by
              rw [take_snoc _ k hkl, num_snoc]
              have e : ((bs.drop q).take n)[k] = bs[q + k] := by simp
              rw [e]; omega
            have hb8 : (bs[q + k].toNat : Int) < 256 := by have := bs[q + k].toNat_lt; omega
            go_wp2_with (first | ((with_reducible refine gate_dst (N := 36) rfl ?_); (refine wp_index_load rfl (fun _ => rfl) 48 5 _ _ 36 rfl rfl rfl Tryd.underlying48 size8 agg8 rfl rfl hr (by rw [bcs_length]) (fun _ => rfl) (by omega) (by omega) (by rw [show ((q : Int) + (k : Int)).toNat = q + k by omega]; exact bcs_at bs (q + k) hqk) ?_); intro p36))
            go_round
            case rel => exact ⟨k + 1, by omega, by go_num, rfl⟩
            case measure => simp [intOf]; omega
          · go_wp2
            go_ret3
            have hkn : k = n := by omega
            subst hkn
            refine ⟨rfl, ?_⟩
            rw [if_pos HR.out, Int.toNat_natCast]
            simp only [List.take_of_length_le (Nat.le_of_eq HL.out)]
            rfl
end Go.Proofs.YtnecgoahdkfbeaaDoor.Oct
