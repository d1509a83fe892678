/- Hex, the program's and the reference's: their contracts. -/
import Derived.Test.YtmiffljcggfcgaaHexU
import Derived.Test.YtmiffljcggfcgaaBld
namespace Go.Proofs.Ytmiffljcggfcgaa.Hex
open Go Go.RowKit Go.Proofs.Ytmiffljcggfcgaa.Cop Go.Proofs.Ytmiffljcggfcgaa.Oct Go.Proofs.Ytmiffljcggfcgaa.Bld
set_option linter.unusedVariables false
set_option linter.unusedSimpArgs false

/-- A byte's two letters, and those of all. -/
def h1 (b : UInt8) : UInt8 := HX.getD (b.toNat / 16) 0
def h2 (b : UInt8) : UInt8 := HX.getD (b.toNat % 16) 0
def hexOf : List UInt8 → List UInt8
  | [] => []
  | b :: l => h1 b :: h2 b :: hexOf l
theorem hexOf_length (l : List UInt8) : (hexOf l).length = 2 * l.length := by
  induction l with
  | nil => rfl
  | cons b l ih => simp [hexOf, ih]; omega
theorem hexOf_append (l m : List UInt8) : hexOf (l ++ m) = hexOf l ++ hexOf m := by
  induction l with
  | nil => rfl
  | cons b l ih => simp [hexOf, ih]
theorem hexOf_take (l : List UInt8) (k : Nat) (h : k < l.length) : hexOf (l.take (k + 1)) = hexOf (l.take k) ++ [h1 l[k]] ++ [h2 l[k]] := by
  rw [List.take_succ_eq_append_getElem h, hexOf_append]
  simp [hexOf]

theorem lit16 (i : Nat) (h : i < 16) : (ByteArray.mk #[48, 49, 50, 51, 52, 53, 54, 55, 56, 57, 97, 98, 99, 100, 101, 102])[i]'h = HX.getD i 0 := by
  have := bgetD (ByteArray.mk #[48, 49, 50, 51, 52, 53, 54, 55, 56, 57, 97, 98, 99, 100, 101, 102]) i h
  rw [← this]; rfl

set_option maxRecDepth 100000 in
theorem hex_calls (v : Value) (l : List UInt8) (w : World) (hv : Rd w v l) (hl : l.length ≤ 1048576) :
    Calls Try.prog 40 #[v] w fun e w' => e = .returned (.string (str (hexOf l))) ∧ Below w.heap.size w w' := by
  go_enter Try.func40, Try.ntmps40
  go_wp2_with ((with_reducible refine gate_dst (N := 7) rfl ?_); go_loud (refine wp_lenB rfl _ rfl (Rd.alloc hv _) rfl ?_))
  go_loopw [8] (fun i wr => ∃ k : Nat, k ≤ l.length ∧ i = .int .i64 (k : Int) ∧ Lib.IsBuilder 110 5 w.heap.size w.heap.size (bcs (hexOf (l.take k))) wr ∧ Below w.heap.size w wr) (fun i _ => l.length - (intOf i).toNat)
  case atStart => exact ⟨0, Nat.zero_le _, rfl, Lib.fresh_isBuilder 110 5 w, (Below.refl _ _).alloc (Nat.le_refl _) _⟩
  case round =>
    obtain ⟨k, hk, rfl, hB, hbel⟩ := hrel
    have hv2 := hv.below hbel
    by_cases hlt : k < l.length
    · have d1 : decide ((k : Int) < (l.length : Int)) = true := decide_eq_true (by omega)
      obtain ⟨b, hb⟩ : ∃ b, b = l[k] := ⟨_, rfl⟩
      have HB := Lib.hid hb
      clear hb
      have hroom : (hexOf (l.take k)).length + 1 ≤ 140737488355328 := by rw [hexOf_length, List.length_take]; omega
      have hroom2 : (hexOf (l.take k) ++ [h1 b]).length + 1 ≤ 140737488355328 := by rw [List.length_append, hexOf_length, List.length_take]; simp; omega
      have g1 : b.toNat / 16 < 16 := by have := b.toNat_lt; omega
      have g2 : (b.toNat : Int) / 16 < 16 := by have := b.toNat_lt; omega
      go_wp2_with (first | (((with_reducible refine gate_dst (N := 10) rfl ?_); go_loud (refine wp_getB rfl (fun _ => rfl) _ _ 10 rfl rfl rfl hv2 rfl rfl (fun _ => rfl) (k) (by rfl) (by exact hlt) ?_); intro _); rw [← HB.out]) | (go_at_call 65; refine (wbyte w.heap.size w.heap.size _ _ _ hB (by rw [bcs_length]; exact hroom) hbel.size).mono ?_))
      rintro e w1 ⟨rfl, hB1, hb1⟩
      have hB2 : Lib.IsBuilder 110 5 w.heap.size w.heap.size (bcs (hexOf (l.take k) ++ [h1 b])) w1 := .inr (by rw [bcs_append]; rw [lit16 _ g1] at hB1; exact hB1)
      have hbel1 := hbel.trans hb1
      clear hB1 hb1 hB
      have g3 : b.toNat % 16 < 16 := by omega
      go_wp2_with fail
      refine (wbyte w.heap.size w.heap.size _ _ w1 hB2 (by rw [bcs_length]; exact hroom2) hbel1.size).mono ?_
      rintro e w2 ⟨rfl, hB3, hb3⟩
      have hB4 : Lib.IsBuilder 110 5 w.heap.size w.heap.size (bcs (hexOf (l.take (k + 1)))) w2 := .inr (by
        rw [hexOf_take l k hlt, ← HB.out, bcs_append]
        rw [lit16 _ g3] at hB3
        exact hB3)
      have hbel2 := hbel1.trans hb3
      clear hB3 hb3 hB2
      go_wp2_with fail
      go_roundw
      case rel => exact ⟨k + 1, by omega, by go_num, hB4, hbel2⟩
      case measure => simp [intOf]; omega
    · have hke : k = l.length := by omega
      have d1 : decide ((k : Int) < (l.length : Int)) = false := decide_eq_false (by omega)
      subst hke
      rw [List.take_length] at hB
      go_wp2_with fail
      refine (Try.Builder_String_any w.heap.size w.heap.size (hexOf l) wr hB hbel.size).mono ?_
      rintro e w2 ⟨rfl, hb3⟩
      go_wp2_with fail
      go_ret
      exact ⟨rfl, hbel.trans hb3⟩

set_option maxHeartbeats 1000000 in
set_option maxRecDepth 100000 in
theorem rhex_calls (v : Value) (l : List UInt8) (w : World) (hv : Rd w v l) (hl : l.length ≤ 1048576) :
    Calls Try.prog 41 #[v] w fun e w' => e = .returned (.string (str (hexOf l))) ∧ Below w.heap.size w w' := by
  obtain ⟨ao, cap, rfl, hvo⟩ := Row.open hv
  clear hv
  go_enter Try.func41, Try.ntmps41
  go_wp2_with fail
  go_loopw [3, 4] (fun u i wr => ∃ k : Nat, k ≤ l.length ∧ i = .int .i64 (k : Int) ∧ Own w.heap.size wr u (hexOf (l.take k)) ∧ Below w.heap.size w wr) (fun _ i _ => l.length - (intOf i).toNat)
  case atStart => exact ⟨0, Nat.zero_le _, rfl, Own.nil _ _, Below.refl _ _⟩
  case round =>
    obtain ⟨k, hk, rfl, hown, hbel⟩ := hrel
    by_cases hlt : k < l.length
    · have d1 : decide ((k : Int) < (l.length : Int)) = true := decide_eq_true (by omega)
      obtain ⟨b, hb⟩ : ∃ b, b = l[k] := ⟨_, rfl⟩
      obtain ⟨ad, rfl, hcell⟩ : ∃ ad, ao = some ad ∧ wr.cell? (ad.add k) = some (u8c b) := by
        obtain ⟨_, _, he, _, _, q3, q4⟩ := hvo.below hbel
        injection he with he1 he2 he3
        subst he1 he3
        cases ao with
        | none => have := (q3 rfl).2; have h := bcs_length l; rw [this] at h; simp at h; omega
        | some ad => exact ⟨ad, rfl, by rw [hb]; exact q4 ad rfl k _ (bcs_at l k hlt)⟩
      have HB := Lib.hid hb
      clear hb
      obtain ⟨m, hm⟩ : ∃ m : Nat, m = b.toNat / 16 := ⟨_, rfl⟩
      obtain ⟨n, hn⟩ : ∃ n : Nat, n = b.toNat % 16 := ⟨_, rfl⟩
      have hblt := b.toNat_lt
      have g1 : m < 16 := by omega
      have g3 : n < 16 := by omega
      have g4 : (m : Int) < 16 := by omega
      have g5 : (n : Int) < 16 := by omega
      have e1 : IntKind.u8.wrap ((b.toNat : Int) / 16) = (m : Int) := by rw [IntWalk.u8_in _ (by omega)]; omega
      have e2 : IntKind.u8.wrap ((b.toNat : Int) % 16) = (n : Int) := by rw [IntWalk.u8_in _ (by omega)]; omega
      have e3 : ((b.toNat : Int)).tmod 16 = (n : Int) := by rw [Int.tmod_eq_emod_of_nonneg (by omega)]; omega
      have hx1 : u8c (HX.getD m 0) = u8c (h1 b) := by rw [hm]; rfl
      have hx2 : u8c (HX.getD n 0) = u8c (h2 b) := by rw [hn]; rfl
      have HX1 := Lib.hid hx1
      have HX2 := Lib.hid hx2
      have hroom := hexOf_length (l.take k)
      rw [List.length_take] at hroom
      have HR := Lib.hid hroom
      clear hm hn hx1 hx2 hroom hblt
      go_wp2_with fail
      go_region_law (refine step_append rfl (.tmp 11) (.tmp 24) 52 5 rfl Try.underlying52 info8 rfl (by decide) (base := w.heap.size) (n := (hexOf (l.take k)).length) (xs := bcs (hexOf (l.take k))) rfl (hown.alloc _) (m := 2) (cs := [_, _]) rfl (Row.lit _ [_, _] _ 2 (by decide)) rfl (by simp [Value.oneCell']) (by have := HR.out; unfold maxLen; omega) (by have := HR.out; omega) (by have := hbel.size; simp; omega) ?_; intro v' w2 hown2 hgrow2)
      all_goals
        have hbel2 : Below w.heap.size w w2 := ((hbel.alloc hbel.size _).drew).grown hgrow2 (by have := hbel.size; simp; omega) (fun j hj => (hown.lt j hj).1)
        have hown3 : Own w.heap.size w2 v' (hexOf (l.take (k + 1))) := by
          unfold Own
          rw [hexOf_take l k hlt, ← HB.out]
          rw [lit16 _ g1, lit16 _ g3] at hown2
          rw [List.append_assoc, bcs_append, List.length_append]
          show w2.ownsRow w.heap.size 5 1 v' ((hexOf (l.take k)).length + 2) (bcs (hexOf (l.take k)) ++ [u8c (h1 b), u8c (h2 b)])
          rw [← HX1.out, ← HX2.out]
          exact hown2
        clear hown2 hgrow2 hown
        go_wp2
        go_roundw
        case rel => exact ⟨k + 1, by omega, by go_num, hown3, hbel2⟩
        case measure => simp [intOf]; omega
    · have hke : k = l.length := by omega
      have d1 : decide ((k : Int) < (l.length : Int)) = false := decide_eq_false (by omega)
      subst hke
      rw [List.take_length] at hown
      go_wp2_with ((with_reducible refine gate_dst (N := 27) rfl ?_); go_loud (refine wp_strB rfl _ rfl hown.rd rfl ?_))
      go_ret
      exact ⟨rfl, hbel⟩
end Go.Proofs.Ytmiffljcggfcgaa.Hex
