/- Bytes told to the base 64: the plain law, and the reference's contract. -/
import Derived.Test.YtfefcfjedlidnaaDoorB64D
import Derived.BigRegion
namespace Go.Proofs.YtfefcfjedlidnaaDoor.B64
open Go Go.RowKit Go.Proofs.YtfefcfjedlidnaaDoor.Cop Go.Proofs.YtfefcfjedlidnaaDoor.Oct Go.Proofs.YtfefcfjedlidnaaDoor.Hex
set_option linter.unusedVariables false
set_option linter.unusedSimpArgs false

/-- The number of three bytes, of which some may lack. -/
def num3 (m : List UInt8) (k : Nat) : Nat := match k with
  | 0 => 0
  | k + 1 => num3 m k * 256 + (m.getD k 0).toNat
theorem num3_lt (m : List UInt8) (k : Nat) : num3 m k < 256 ^ k := by
  induction k with
  | zero => simp [num3]
  | succ k ih =>
    have := (m.getD k 0).toNat_lt
    unfold num3
    rw [Nat.pow_succ]
    omega
/-- The k-th of the four letters of at most three bytes. -/
def let4 (m : List UInt8) (k : Nat) : UInt8 := SX.getD (num3 m 3 / 64 ^ (3 - k) % 64) 0
def four (m : List UInt8) (k : Nat) : UInt8 := if m.length < k then 61 else let4 m k
def enc (m : List UInt8) : List UInt8 := [four m 0, four m 1, four m 2, four m 3]
def b64 : List UInt8 → List UInt8
  | [] => []
  | [a] => enc [a]
  | [a, b] => enc [a, b]
  | a :: b :: c :: r => enc [a, b, c] ++ b64 r
theorem b64_append : ∀ (a b : List UInt8), a.length % 3 = 0 → b64 (a ++ b) = b64 a ++ b64 b
  | [], b, _ => rfl
  | [x], b, h => by simp at h
  | [x, y], b, h => by simp at h
  | x :: y :: z :: r, b, h => by
    have := b64_append r b (by simp at h; omega)
    simp [b64, this]
theorem b64_piece (m : List UInt8) (h0 : 0 < m.length) (h : m.length ≤ 3) : b64 m = enc m := by
  match m, h0, h with
  | [a], _, _ => rfl
  | [a, b], _, _ => rfl
  | [a, b, c], _, _ => simp [b64]
theorem b64_step (l : List UInt8) (i : Nat) (hi : i % 3 = 0) (h : i < l.length) : b64 (l.take (i + 3)) = b64 (l.take i) ++ enc ((l.drop i).take 3) := by
  rw [List.take_add, b64_append _ _ (by rw [List.length_take]; omega), b64_piece ((l.drop i).take 3) (by simp; omega) (by simp; omega)]
theorem enc_length (m : List UInt8) : (enc m).length = 4 := rfl
theorem b64_length : ∀ (l : List UInt8), (b64 l).length ≤ 4 * ((l.length + 2) / 3)
  | [] => by simp [b64]
  | [a] => by simp [b64, enc]
  | [a, b] => by simp [b64, enc]
  | a :: b :: c :: r => by
    have := b64_length r
    simp [b64, enc]
    omega

theorem four_let (m : List UInt8) (q z0 z1 z2 z3 : Nat) (hq : q = num3 m 3) (h0 : z0 = q / 262144) (h1 : z1 = q / 4096 % 64) (h2 : z2 = q / 64 % 64) (h3 : z3 = q % 64) :
    SX.getD z0 0 = let4 m 0 ∧ SX.getD z1 0 = let4 m 1 ∧ SX.getD z2 0 = let4 m 2 ∧ SX.getD z3 0 = let4 m 3 := by
  have hlt := num3_lt m 3
  rw [← hq] at hlt
  unfold let4
  rw [← hq]
  refine ⟨?_, ?_, ?_, ?_⟩
  · congr 1; simp only [Nat.reducePow, Nat.reduceSub] at *; omega
  · congr 1
  · congr 1
  · congr 1; simp only [Nat.reducePow, Nat.reduceSub] at *; omega

theorem lit64 (i : Nat) (h : i < 64) (h' : i < (ByteArray.mk #[65, 66, 67, 68, 69, 70, 71, 72, 73, 74, 75, 76, 77, 78, 79, 80, 81, 82, 83, 84, 85, 86, 87, 88, 89, 90, 97, 98, 99, 100, 101, 102, 103, 104, 105, 106, 107, 108, 109, 110, 111, 112, 113, 114, 115, 116, 117, 118, 119, 120, 121, 122, 48, 49, 50, 51, 52, 53, 54, 55, 56, 57, 43, 47]).size) : (ByteArray.mk #[65, 66, 67, 68, 69, 70, 71, 72, 73, 74, 75, 76, 77, 78, 79, 80, 81, 82, 83, 84, 85, 86, 87, 88, 89, 90, 97, 98, 99, 100, 101, 102, 103, 104, 105, 106, 107, 108, 109, 110, 111, 112, 113, 114, 115, 116, 117, 118, 119, 120, 121, 122, 48, 49, 50, 51, 52, 53, 54, 55, 56, 57, 43, 47])[i]'h' = SX.getD i 0 := by
  rw [← bgetD _ i h']; rfl
/-- The array while its letters are told. -/
def lets (m : List UInt8) : List UInt8 := [let4 m 0, let4 m 1, let4 m 2, let4 m 3]
def cur (m : List UInt8) (k : Nat) : List UInt8 := (enc m).take k ++ (lets m).drop k
theorem four_cases {k : Nat} (h : k < 4) : k = 0 ∨ k = 1 ∨ k = 2 ∨ k = 3 := by omega
theorem cur_length (m : List UInt8) (k : Nat) (h : k ≤ 4) : (cur m k).length = 4 := by
  unfold cur lets
  rw [List.length_append, List.length_take, List.length_drop, enc_length]
  simp; omega
theorem cur_set (m : List UInt8) (k : Nat) (h : k < 4) (hn : m.length < k) : (cur m k).set k 61 = cur m (k + 1) := by
  rcases four_cases h with rfl | rfl | rfl | rfl <;> simp [cur, enc, lets, four, hn]
theorem cur_keep (m : List UInt8) (k : Nat) (h : k < 4) (hn : ¬ m.length < k) : cur m k = cur m (k + 1) := by
  have e : four m k = let4 m k := if_neg hn
  rcases four_cases h with rfl | rfl | rfl | rfl <;> simp [cur, enc, lets, e]
theorem cur_at (m : List UInt8) (k : Nat) (h : k < 4) : (cur m (k + 1))[k]? = some (four m k) := by
  rcases four_cases h with rfl | rfl | rfl | rfl <;> simp [cur, enc, lets]
theorem enc_take (m : List UInt8) (k : Nat) (h : k < 4) : (enc m).take (k + 1) = (enc m).take k ++ [four m k] := by
  rcases four_cases h with rfl | rfl | rfl | rfl <;> simp [enc]

set_option maxHeartbeats 2000000 in
set_option maxRecDepth 100000 in
theorem rb64_calls (v : Value) (l : List UInt8) (w : World) (hv : Rd w v l) (hl : l.length ≤ 1048576) :
    Calls Tryd.prog 77 #[v] w fun e w' => e = .returned (.string (str (b64 l))) ∧ Below w.heap.size w w' := by
  go_enter Tryd.func77, Tryd.ntmps77
  go_wp2_with fail
  go_loopw [3, 4] (fun u i wr => ∃ p : Nat, p ≤ l.length + 2 ∧ Hid (p % 3 = 0) ∧ i = .int .i64 (p : Int) ∧ Own w.heap.size wr u (b64 (l.take p)) ∧ Below w.heap.size w wr) (fun _ i _ => l.length + 3 - (intOf i).toNat)
  case atStart => exact ⟨0, by omega, Lib.hid rfl, rfl, Own.nil _ _, Below.refl _ _⟩
  case round =>
    obtain ⟨p, hp, HP3, rfl, hown, hbel⟩ := hrel
    obtain ⟨w0, hw0⟩ : ∃ w0 : World, w0 = wr := ⟨_, rfl⟩
    subst hw0
    have hv2 := hv.below hbel
    by_cases hlt : p < l.length
    · have d1 : decide ((p : Int) < (l.length : Int)) = true := decide_eq_true (by omega)
      obtain ⟨m, hm⟩ : ∃ m, m = (l.drop p).take 3 := ⟨_, rfl⟩
      obtain ⟨n, hn⟩ : ∃ n, n = m.length := ⟨_, rfl⟩
      have hmn : n ≤ 3 ∧ 0 < n ∧ n ≤ l.length - p := by rw [hn, hm]; simp; omega
      have HM := Lib.hid (show m = (l.drop p).take 3 ∧ n = m.length from ⟨hm, hn⟩)
      clear hm hn
      obtain ⟨hn3, hn0, hnl⟩ := hmn
      by_cases h3 : 3 < l.length - p
      · have d2 : decide ((3 : Int) < (l.length : Int) - (p : Int)) = true := decide_eq_true (by omega)
        have hn33 : n = 3 := by have := HM.out; rw [this.2, this.1]; simp; omega
        subst hn33
        go_wp2_with (first | ((with_reducible refine gate_dst (N := 12) rfl ?_); go_loud (refine wp_lenB rfl _ rfl hv2 rfl ?_)) | ((with_reducible refine gate_dst (N := 17) rfl ?_); go_loud (refine wp_lenB rfl _ rfl hv2 rfl ?_)))
        go_loop [6, 7] (fun x y => ∃ k q : Nat, k ≤ 3 ∧ x = .int .i64 (q : Int) ∧ y = .int .i64 (k : Int) ∧ q < 16777216 ∧ Hid (q = num3 m k ∧ q < 256 ^ k)) (fun _ y => 3 - (intOf y).toNat)
        case atStart => exact ⟨0, 0, by omega, rfl, rfl, by omega, Lib.hid ⟨rfl, by decide⟩⟩
        case round =>
          obtain ⟨k, q, hk, rfl, rfl, hq24, HQ⟩ := hrel
          by_cases hk3 : k < 3
          · have e1 : decide ((k : Int) < 3) = true := decide_eq_true (by omega)
            have hq16 : q < 65536 := by
              have := HQ.out.2
              have : 256 ^ k ≤ 256 ^ 2 := Nat.pow_le_pow_right (by decide) (by omega)
              omega
            by_cases hkn : k < 3
            · have e2 : True := trivial
              have e3 : True := trivial
              have hat : p + k < l.length := by omega
              obtain ⟨c, hc⟩ : ∃ c, c = l[p + k] := ⟨_, rfl⟩
              have hnx : num3 m (k + 1) = q * 256 + c.toNat := by
                unfold num3
                rw [HQ.out.1, hc]
                have e : m.getD k 0 = l[p + k] := by
                  rw [HM.out.1, List.getD, List.getElem?_take, if_pos (by omega), List.getElem?_drop, List.getElem?_eq_getElem hat]; rfl
                rw [e]
              have hlt256 := num3_lt m (k + 1)
              have hcl := c.toNat_lt
              have HC := Lib.hid hc
              obtain ⟨q2, hq2⟩ : ∃ q2 : Nat, q2 = q * 256 + c.toNat := ⟨_, rfl⟩
              have e4 : (q : Int) * 256 + (c.toNat : Int) = (q2 : Int) := by omega
              have hq2l : q2 < 16777216 := by omega
              have HQ2 := Lib.hid (show q2 = num3 m (k + 1) ∧ q2 < 256 ^ (k + 1) from ⟨by rw [hnx, hq2], by rw [hq2, ← hnx]; exact hlt256⟩)
              clear hc hnx hlt256 hq2
              go_wp2_with (first | ((with_reducible refine gate_dst (N := 17) rfl ?_); go_loud (refine wp_lenB rfl _ rfl hv2 rfl ?_)) | (((with_reducible refine gate_dst (N := 36) rfl ?_); go_loud (refine wp_getB rfl (fun _ => rfl) _ _ 36 rfl rfl rfl hv2 rfl rfl (fun _ => rfl) (p + k) (by omega) (by exact hat) ?_); intro _); rw [← HC.out]))
              go_round
              case rel => exact ⟨k + 1, q2, by omega, (by first | rfl | rw [e4]), by go_num, hq2l, HQ2⟩
              case measure => simp [intOf]; omega
            · omega
          · have e1 : decide ((k : Int) < 3) = false := decide_eq_false (by omega)
            have hk33 : k = 3 := by omega
            obtain ⟨hq1, hq2⟩ := HQ.out
            rw [hk33] at hq1
            obtain ⟨z0, hz0⟩ : ∃ z : Nat, z = q / 262144 := ⟨_, rfl⟩
            obtain ⟨y1, hy1⟩ : ∃ z : Nat, z = q / 4096 := ⟨_, rfl⟩
            obtain ⟨z1, hz1⟩ : ∃ z : Nat, z = y1 % 64 := ⟨_, rfl⟩
            obtain ⟨y2, hy2⟩ : ∃ z : Nat, z = q / 64 := ⟨_, rfl⟩
            obtain ⟨z2, hz2⟩ : ∃ z : Nat, z = y2 % 64 := ⟨_, rfl⟩
            obtain ⟨z3, hz3⟩ : ∃ z : Nat, z = q % 64 := ⟨_, rfl⟩
            have b0 : z0 < 64 := by omega
            have b1 : z1 < 64 := by omega
            have b2 : z2 < 64 := by omega
            have b3 : z3 < 64 := by omega
            have c0 : (z0 : Int) < 64 := by omega
            have c1 : (z1 : Int) < 64 := by omega
            have c2 : (z2 : Int) < 64 := by omega
            have c3 : (z3 : Int) < 64 := by omega
            have f0 : IntKind.i64.wrap ((q : Int) / 262144) = (z0 : Int) := by rw [IntWalk.i64_in _ (by omega)]; omega
            have f1 : IntKind.i64.wrap ((q : Int) / 4096) = (y1 : Int) := by rw [IntWalk.i64_in _ (by omega)]; omega
            have f2 : IntKind.i64.wrap ((q : Int) / 64) = (y2 : Int) := by rw [IntWalk.i64_in _ (by omega)]; omega
            have g1 : ((y1 : Int)).tmod 64 = (z1 : Int) := by rw [Int.tmod_eq_emod_of_nonneg (by omega)]; omega
            have g2 : ((y2 : Int)).tmod 64 = (z2 : Int) := by rw [Int.tmod_eq_emod_of_nonneg (by omega)]; omega
            have g3 : ((q : Int)).tmod 64 = (z3 : Int) := by rw [Int.tmod_eq_emod_of_nonneg (by omega)]; omega
            have H4 := Lib.hid (four_let m q z0 z1 z2 z3 hq1 hz0 (by rw [hz1, hy1]) (by rw [hz2, hy2]) hz3)
            clear hq1 hq2 hz0 hy1 hz1 hy2 hz2 hz3 HQ hk33
            go_wp2_with fail
            go_region
            rw [lit64 z0 b0, lit64 z1 b1, lit64 z2 b2, lit64 z3 b3, H4.out.1, H4.out.2.1, H4.out.2.2.1, H4.out.2.2.2]
            have hkA : Blk ((w0.alloc (.cells #[.int .u8 (let4 m 0).toNat, .int .u8 (let4 m 1).toNat, .int .u8 (let4 m 2).toNat, .int .u8 (let4 m 3).toNat] 174)).drew) w0.heap.size 174 (bcs (lets m)) := Blk.new w0 (bcs (lets m)) 174
            have hbA : Below w0.heap.size w0 ((w0.alloc (.cells #[.int .u8 (let4 m 0).toNat, .int .u8 (let4 m 1).toNat, .int .u8 (let4 m 2).toNat, .int .u8 (let4 m 3).toNat] 174)).drew) := ((Below.refl _ _).alloc (Nat.le_refl _) _).drew
            generalize (w0.alloc (.cells #[.int .u8 (let4 m 0).toNat, .int .u8 (let4 m 1).toNat, .int .u8 (let4 m 2).toNat, .int .u8 (let4 m 3).toNat] 174)).drew = wa at hkA hbA ⊢
            have hownA := hown.below hbA
            have hbelA := hbel.trans (hbA.mono hbel.size)
            have hgle : w.heap.size ≤ w0.heap.size := hbel.size
            clear b0 b1 b2 b3 c0 c1 c2 c3 f0 f1 f2 g1 g2 g3 H4
            go_wp2_with fail
            go_loopw [3, 9] (fun u y wr => ∃ j : Nat, j ≤ 4 ∧ y = .int .i64 (j : Int) ∧ Own w.heap.size wr u (b64 (l.take p) ++ (enc m).take j) ∧ Blk wr w0.heap.size 174 (bcs (cur m j)) ∧ Below w.heap.size w wr ∧ w0.heap.size ≤ wr.heap.size) (fun _ y _ => 4 - (intOf y).toNat)
            case atStart => exact ⟨0, by omega, rfl, by simpa using hownA, hkA, hbelA, hbA.size⟩
            case round =>
              obtain ⟨j, hj, rfl, hownB, hkB, hbelB, hszB⟩ := hrel
              by_cases hj4 : j < 4
              · have e5 : decide ((j : Int) < 4) = true := decide_eq_true (by omega)
                have hcl := cur_length m j (by omega)
                have hat := cur_at m j hj4
                have hll : (b64 (l.take p)).length ≤ 1398108 := by
                  have h1 := b64_length (l.take p)
                  have h2 : (l.take p).length ≤ l.length := by rw [List.length_take]; omega
                  omega
                have hlen2 : (b64 (l.take p) ++ (enc m).take j).length ≤ 1398112 := by
                  rw [List.length_append, List.length_take, enc_length]; omega
                have HCL := Lib.hid hcl
                have HAT := Lib.hid hat
                clear hcl hat hll
                have hnj' : ¬ m.length < j := by have := HM.out.2; omega
                have e6 : decide ((3 : Int) < (j : Int)) = false := decide_eq_false (by omega)
                have hkC : Blk wr w0.heap.size 174 (bcs (cur m (j + 1))) := by rw [← cur_keep m j hj4 hnj']; exact hkB
                have hcell : wr.cell? ⟨w0.heap.size, j, none⟩ = some (u8c (four m j)) := by
                  rw [hkC.cell]; unfold bcs; rw [List.getElem?_map, HAT.out]; rfl
                clear hkB hnj'
                go_wp2_with ((with_reducible refine gate_dst (N := 69) rfl ?_); (refine wp_append rfl (.tmp 64) (.tmp 68) 24 5 rfl Tryd.underlying24 info8 rfl (by decide) (base := w.heap.size) (n := (b64 (l.take p) ++ (enc m).take j).length) (xs := bcs (b64 (l.take p) ++ (enc m).take j)) rfl (hownB.alloc _) rfl (Row.one _ _ _) rfl (one_one rfl) (by unfold maxLen; omega) (by omega) (by have := hbelB.size; simp; omega) ?_); intro v' w3 hown2 hgrow2)
                have hbel2 : Below w.heap.size w w3 := (hbelB.alloc hbelB.size _).grown hgrow2 (by have := hbelB.size; simp; omega) (fun j hj => (hownB.lt j hj).1)
                have hown3 : Own w.heap.size w3 v' (b64 (l.take p) ++ (enc m).take (j + 1)) := by
                  rw [enc_take m j hj4, ← List.append_assoc]
                  unfold Own
                  rw [List.length_append, bcs_append]
                  exact hown2
                have hkD : Blk w3 w0.heap.size 174 (bcs (cur m (j + 1))) := (hkC.below ((Below.refl _ _).alloc (Nat.le_refl _) _)).grown hgrow2 (fun e => Lib.ownBlock_ne hownB hkC (by decide) e.symm)
                have hsz3 : w0.heap.size ≤ w3.heap.size := by have := hgrow2.size; simp at this; omega
                clear hown2 hgrow2 hownB hkC hcell
                go_wp2
                go_roundw
                case rel => exact ⟨j + 1, by omega, by go_num, hown3, hkD, hbel2, hsz3⟩
                case measure => simp [intOf]; omega
              · have hj44 : j = 4 := by omega
                subst hj44
                have e5 : decide (((4 : Nat) : Int) < 4) = false := by decide
                have e10 : b64 (l.take p) ++ (enc m).take 4 = b64 (l.take (p + 3)) := by
                  rw [b64_step l p HP3.out hlt, ← HM.out.1]; rfl
                rw [e10] at hownB
                clear e10
                go_wp2_with fail
                go_roundw
                case rel => exact ⟨p + 3, by omega, Lib.hid (by have := HP3.out; omega), by go_num, hownB, hbelB⟩
                case measure => simp [intOf]; omega
      · have d2 : decide ((3 : Int) < (l.length : Int) - (p : Int)) = false := decide_eq_false (by omega)
        have hnn : n = l.length - p := by have := HM.out; rw [this.2, this.1]; simp; omega
        have e9 : (l.length : Int) - (p : Int) = (n : Int) := by omega
        have HNN := Lib.hid hnn
        clear hnn h3
        go_wp2_with (first | ((with_reducible refine gate_dst (N := 12) rfl ?_); go_loud (refine wp_lenB rfl _ rfl hv2 rfl ?_)) | ((with_reducible refine gate_dst (N := 17) rfl ?_); go_loud (refine wp_lenB rfl _ rfl hv2 rfl ?_)))
        go_loop [6, 7] (fun x y => ∃ k q : Nat, k ≤ 3 ∧ x = .int .i64 (q : Int) ∧ y = .int .i64 (k : Int) ∧ q < 16777216 ∧ Hid (q = num3 m k ∧ q < 256 ^ k)) (fun _ y => 3 - (intOf y).toNat)
        case atStart => exact ⟨0, 0, by omega, rfl, rfl, by omega, Lib.hid ⟨rfl, by decide⟩⟩
        case round =>
          obtain ⟨k, q, hk, rfl, rfl, hq24, HQ⟩ := hrel
          by_cases hk3 : k < 3
          · have e1 : decide ((k : Int) < 3) = true := decide_eq_true (by omega)
            have hq16 : q < 65536 := by
              have := HQ.out.2
              have : 256 ^ k ≤ 256 ^ 2 := Nat.pow_le_pow_right (by decide) (by omega)
              omega
            by_cases hkn : k < n
            · have e2 : decide ((k : Int) < (n : Int)) = true := decide_eq_true (by omega)
              have e3 : decide (k < n) = true := decide_eq_true hkn
              have hat : p + k < l.length := by omega
              obtain ⟨c, hc⟩ : ∃ c, c = l[p + k] := ⟨_, rfl⟩
              have hnx : num3 m (k + 1) = q * 256 + c.toNat := by
                unfold num3
                rw [HQ.out.1, hc]
                have e : m.getD k 0 = l[p + k] := by
                  rw [HM.out.1, List.getD, List.getElem?_take, if_pos (by omega), List.getElem?_drop, List.getElem?_eq_getElem hat]; rfl
                rw [e]
              have hlt256 := num3_lt m (k + 1)
              have hcl := c.toNat_lt
              have HC := Lib.hid hc
              obtain ⟨q2, hq2⟩ : ∃ q2 : Nat, q2 = q * 256 + c.toNat := ⟨_, rfl⟩
              have e4 : (q : Int) * 256 + (c.toNat : Int) = (q2 : Int) := by omega
              have hq2l : q2 < 16777216 := by omega
              have HQ2 := Lib.hid (show q2 = num3 m (k + 1) ∧ q2 < 256 ^ (k + 1) from ⟨by rw [hnx, hq2], by rw [hq2, ← hnx]; exact hlt256⟩)
              clear hc hnx hlt256 hq2
              go_wp2_with (first | ((with_reducible refine gate_dst (N := 17) rfl ?_); go_loud (refine wp_lenB rfl _ rfl hv2 rfl ?_)) | (((with_reducible refine gate_dst (N := 36) rfl ?_); go_loud (refine wp_getB rfl (fun _ => rfl) _ _ 36 rfl rfl rfl hv2 rfl rfl (fun _ => rfl) (p + k) (by omega) (by exact hat) ?_); intro _); rw [← HC.out]))
              go_round
              case rel => exact ⟨k + 1, q2, by omega, (by first | rfl | rw [e4]), by go_num, hq2l, HQ2⟩
              case measure => simp [intOf]; omega
            · have e2 : decide ((k : Int) < (n : Int)) = false := decide_eq_false (by omega)
              have e3 : decide (k < n) = false := decide_eq_false hkn
              have hnx : num3 m (k + 1) = q * 256 := by
                unfold num3
                rw [HQ.out.1]
                have e : m.getD k 0 = 0 := by
                  rw [List.getD, List.getElem?_eq_none (by rw [← HM.out.2]; omega)]; rfl
                rw [e]; rfl
              have hlt256 := num3_lt m (k + 1)
              obtain ⟨q2, hq2⟩ : ∃ q2 : Nat, q2 = q * 256 := ⟨_, rfl⟩
              have e4 : (q : Int) * 256 = (q2 : Int) := by omega
              have hq2l : q2 < 16777216 := by omega
              have HQ2 := Lib.hid (show q2 = num3 m (k + 1) ∧ q2 < 256 ^ (k + 1) from ⟨by rw [hnx, hq2], by rw [hq2, ← hnx]; exact hlt256⟩)
              clear hnx hlt256 hq2
              go_wp2_with fail
              go_round
              case rel => exact ⟨k + 1, q2, by omega, (by first | rfl | rw [e4]), by go_num, hq2l, HQ2⟩
              case measure => simp [intOf]; omega
          · have e1 : decide ((k : Int) < 3) = false := decide_eq_false (by omega)
            have hk33 : k = 3 := by omega
            obtain ⟨hq1, hq2⟩ := HQ.out
            rw [hk33] at hq1
            obtain ⟨z0, hz0⟩ : ∃ z : Nat, z = q / 262144 := ⟨_, rfl⟩
            obtain ⟨y1, hy1⟩ : ∃ z : Nat, z = q / 4096 := ⟨_, rfl⟩
            obtain ⟨z1, hz1⟩ : ∃ z : Nat, z = y1 % 64 := ⟨_, rfl⟩
            obtain ⟨y2, hy2⟩ : ∃ z : Nat, z = q / 64 := ⟨_, rfl⟩
            obtain ⟨z2, hz2⟩ : ∃ z : Nat, z = y2 % 64 := ⟨_, rfl⟩
            obtain ⟨z3, hz3⟩ : ∃ z : Nat, z = q % 64 := ⟨_, rfl⟩
            have b0 : z0 < 64 := by omega
            have b1 : z1 < 64 := by omega
            have b2 : z2 < 64 := by omega
            have b3 : z3 < 64 := by omega
            have c0 : (z0 : Int) < 64 := by omega
            have c1 : (z1 : Int) < 64 := by omega
            have c2 : (z2 : Int) < 64 := by omega
            have c3 : (z3 : Int) < 64 := by omega
            have f0 : IntKind.i64.wrap ((q : Int) / 262144) = (z0 : Int) := by rw [IntWalk.i64_in _ (by omega)]; omega
            have f1 : IntKind.i64.wrap ((q : Int) / 4096) = (y1 : Int) := by rw [IntWalk.i64_in _ (by omega)]; omega
            have f2 : IntKind.i64.wrap ((q : Int) / 64) = (y2 : Int) := by rw [IntWalk.i64_in _ (by omega)]; omega
            have g1 : ((y1 : Int)).tmod 64 = (z1 : Int) := by rw [Int.tmod_eq_emod_of_nonneg (by omega)]; omega
            have g2 : ((y2 : Int)).tmod 64 = (z2 : Int) := by rw [Int.tmod_eq_emod_of_nonneg (by omega)]; omega
            have g3 : ((q : Int)).tmod 64 = (z3 : Int) := by rw [Int.tmod_eq_emod_of_nonneg (by omega)]; omega
            have H4 := Lib.hid (four_let m q z0 z1 z2 z3 hq1 hz0 (by rw [hz1, hy1]) (by rw [hz2, hy2]) hz3)
            clear hq1 hq2 hz0 hy1 hz1 hy2 hz2 hz3 HQ hk33
            go_wp2_with fail
            go_region
            rw [lit64 z0 b0, lit64 z1 b1, lit64 z2 b2, lit64 z3 b3, H4.out.1, H4.out.2.1, H4.out.2.2.1, H4.out.2.2.2]
            have hkA : Blk ((w0.alloc (.cells #[.int .u8 (let4 m 0).toNat, .int .u8 (let4 m 1).toNat, .int .u8 (let4 m 2).toNat, .int .u8 (let4 m 3).toNat] 174)).drew) w0.heap.size 174 (bcs (lets m)) := Blk.new w0 (bcs (lets m)) 174
            have hbA : Below w0.heap.size w0 ((w0.alloc (.cells #[.int .u8 (let4 m 0).toNat, .int .u8 (let4 m 1).toNat, .int .u8 (let4 m 2).toNat, .int .u8 (let4 m 3).toNat] 174)).drew) := ((Below.refl _ _).alloc (Nat.le_refl _) _).drew
            generalize (w0.alloc (.cells #[.int .u8 (let4 m 0).toNat, .int .u8 (let4 m 1).toNat, .int .u8 (let4 m 2).toNat, .int .u8 (let4 m 3).toNat] 174)).drew = wa at hkA hbA ⊢
            have hownA := hown.below hbA
            have hbelA := hbel.trans (hbA.mono hbel.size)
            have hgle : w.heap.size ≤ w0.heap.size := hbel.size
            clear b0 b1 b2 b3 c0 c1 c2 c3 f0 f1 f2 g1 g2 g3 H4
            go_wp2_with fail
            go_loopw [3, 9] (fun u y wr => ∃ j : Nat, j ≤ 4 ∧ y = .int .i64 (j : Int) ∧ Own w.heap.size wr u (b64 (l.take p) ++ (enc m).take j) ∧ Blk wr w0.heap.size 174 (bcs (cur m j)) ∧ Below w.heap.size w wr ∧ w0.heap.size ≤ wr.heap.size) (fun _ y _ => 4 - (intOf y).toNat)
            case atStart => exact ⟨0, by omega, rfl, by simpa using hownA, hkA, hbelA, hbA.size⟩
            case round =>
              obtain ⟨j, hj, rfl, hownB, hkB, hbelB, hszB⟩ := hrel
              by_cases hj4 : j < 4
              · have e5 : decide ((j : Int) < 4) = true := decide_eq_true (by omega)
                have hcl := cur_length m j (by omega)
                have hat := cur_at m j hj4
                have hll : (b64 (l.take p)).length ≤ 1398108 := by
                  have h1 := b64_length (l.take p)
                  have h2 : (l.take p).length ≤ l.length := by rw [List.length_take]; omega
                  omega
                have hlen2 : (b64 (l.take p) ++ (enc m).take j).length ≤ 1398112 := by
                  rw [List.length_append, List.length_take, enc_length]; omega
                have HCL := Lib.hid hcl
                have HAT := Lib.hid hat
                clear hcl hat hll
                by_cases hnj : n < j
                · have hnj' : m.length < j := by have := HM.out.2; omega
                  have e6 : decide ((n : Int) < (j : Int)) = true := decide_eq_true (by omega)
                  have e7 : decide (n < j) = true := decide_eq_true hnj
                  have HSET : Hid ((bcs (cur m j)).set j (.int .u8 61) = bcs (cur m (j + 1))) := by
                    show _ = _
                    rw [← cur_set m j hj4 hnj']; simp [bcs, u8c, List.map_set]
                  have hll : j < (bcs (cur m j)).length := by rw [bcs_length, HCL.out]; exact hj4
                  go_wp2_with (first | (((with_reducible refine gate_store (t := 5) (p := 63) rfl ?_); go_loud (refine wp_store_cell rfl 5 _ _ rfl rfl size8 rfl hkB hll (v := .int .u8 61) rfl rfl rfl ?_); intro w5 hk5 hg5); rw [HSET.out] at hk5; have hownC : Own w.heap.size w5 _ _ := Own.kept hownB hg5 (.inr (Lib.ownBlock_ne hownB hkB (by decide))); have hcell : w5.cell? ⟨w0.heap.size, j, none⟩ = some (u8c (four m j)) := (by rw [hk5.cell]; unfold bcs; rw [List.getElem?_map, HAT.out]; rfl); have hbelC : Below w.heap.size w w5 := hbelB.grown hg5 hbelB.size (fun k hk => by cases hk; exact hgle); have hszC : w0.heap.size ≤ w5.heap.size := (by have := hg5.size; omega)) | ((with_reducible refine gate_dst (N := 69) rfl ?_); (refine wp_append rfl (.tmp 64) (.tmp 68) 24 5 rfl Tryd.underlying24 info8 rfl (by decide) (base := w.heap.size) (n := (b64 (l.take p) ++ (enc m).take j).length) (xs := bcs (b64 (l.take p) ++ (enc m).take j)) rfl (hownC.alloc _) rfl (Row.one _ _ _) rfl (one_one rfl) (by unfold maxLen; omega) (by omega) (by have := hbelC.size; simp; omega) ?_); intro v' w3 hown2 hgrow2))
                  have hbel2 : Below w.heap.size w w3 := (hbelC.alloc hbelC.size _).grown hgrow2 (by have := hbelC.size; simp; omega) (fun j hj => (hownC.lt j hj).1)
                  have hown3 : Own w.heap.size w3 v' (b64 (l.take p) ++ (enc m).take (j + 1)) := by
                    rw [enc_take m j hj4, ← List.append_assoc]
                    unfold Own
                    rw [List.length_append, bcs_append]
                    exact hown2
                  have hkD : Blk w3 w0.heap.size 174 (bcs (cur m (j + 1))) := (hk5.below ((Below.refl _ _).alloc (Nat.le_refl _) _)).grown hgrow2 (fun e => Lib.ownBlock_ne hownC hk5 (by decide) e.symm)
                  have hsz3 : w0.heap.size ≤ w3.heap.size := by have := hgrow2.size; simp at this; omega
                  clear hown2 hgrow2 hownB hownC hk5 hkB hcell
                  go_wp2
                  go_roundw
                  case rel => exact ⟨j + 1, by omega, by go_num, hown3, hkD, hbel2, hsz3⟩
                  case measure => simp [intOf]; omega
                · have hnj' : ¬ m.length < j := by have := HM.out.2; omega
                  have e6 : decide ((n : Int) < (j : Int)) = false := decide_eq_false (by omega)
                  have e7 : decide (n < j) = false := decide_eq_false hnj
                  have hkC : Blk wr w0.heap.size 174 (bcs (cur m (j + 1))) := by rw [← cur_keep m j hj4 hnj']; exact hkB
                  have hcell : wr.cell? ⟨w0.heap.size, j, none⟩ = some (u8c (four m j)) := by
                    rw [hkC.cell]; unfold bcs; rw [List.getElem?_map, HAT.out]; rfl
                  clear hkB hnj'
                  go_wp2_with ((with_reducible refine gate_dst (N := 69) rfl ?_); (refine wp_append rfl (.tmp 64) (.tmp 68) 24 5 rfl Tryd.underlying24 info8 rfl (by decide) (base := w.heap.size) (n := (b64 (l.take p) ++ (enc m).take j).length) (xs := bcs (b64 (l.take p) ++ (enc m).take j)) rfl (hownB.alloc _) rfl (Row.one _ _ _) rfl (one_one rfl) (by unfold maxLen; omega) (by omega) (by have := hbelB.size; simp; omega) ?_); intro v' w3 hown2 hgrow2)
                  have hbel2 : Below w.heap.size w w3 := (hbelB.alloc hbelB.size _).grown hgrow2 (by have := hbelB.size; simp; omega) (fun j hj => (hownB.lt j hj).1)
                  have hown3 : Own w.heap.size w3 v' (b64 (l.take p) ++ (enc m).take (j + 1)) := by
                    rw [enc_take m j hj4, ← List.append_assoc]
                    unfold Own
                    rw [List.length_append, bcs_append]
                    exact hown2
                  have hkD : Blk w3 w0.heap.size 174 (bcs (cur m (j + 1))) := (hkC.below ((Below.refl _ _).alloc (Nat.le_refl _) _)).grown hgrow2 (fun e => Lib.ownBlock_ne hownB hkC (by decide) e.symm)
                  have hsz3 : w0.heap.size ≤ w3.heap.size := by have := hgrow2.size; simp at this; omega
                  clear hown2 hgrow2 hownB hkC hcell
                  go_wp2
                  go_roundw
                  case rel => exact ⟨j + 1, by omega, by go_num, hown3, hkD, hbel2, hsz3⟩
                  case measure => simp [intOf]; omega
              · have hj44 : j = 4 := by omega
                subst hj44
                have e5 : decide (((4 : Nat) : Int) < 4) = false := by decide
                have e10 : b64 (l.take p) ++ (enc m).take 4 = b64 (l.take (p + 3)) := by
                  rw [b64_step l p HP3.out hlt, ← HM.out.1]; rfl
                rw [e10] at hownB
                clear e10
                go_wp2_with fail
                go_roundw
                case rel => exact ⟨p + 3, by omega, Lib.hid (by have := HP3.out; omega), by go_num, hownB, hbelB⟩
                case measure => simp [intOf]; omega
    · have hpl : l.take p = l := List.take_of_length_le (by omega)
      have d1 : decide ((p : Int) < (l.length : Int)) = false := decide_eq_false (by omega)
      rw [hpl] at hown
      clear hpl
      go_wp2_with (first | ((with_reducible refine gate_dst (N := 12) rfl ?_); go_loud (refine wp_lenB rfl _ rfl hv2 rfl ?_)) | ((with_reducible refine gate_dst (N := 71) rfl ?_); go_loud (refine wp_strB rfl _ rfl hown.rd rfl ?_)))
      go_ret
      exact ⟨rfl, hbel⟩
end Go.Proofs.YtfefcfjedlidnaaDoor.B64
