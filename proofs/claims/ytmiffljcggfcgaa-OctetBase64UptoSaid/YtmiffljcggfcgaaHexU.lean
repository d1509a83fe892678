/- Unhex, the program's and the reference's: their contracts. -/
import Derived.Test.YtmiffljcggfcgaaHexP
import Derived.Deep.RegionLaw
namespace Go.Proofs.Ytmiffljcggfcgaa.Hex
open Go Go.RowKit Go.Proofs.Ytmiffljcggfcgaa.Cop Go.Proofs.Ytmiffljcggfcgaa.Oct
set_option linter.unusedVariables false
set_option linter.unusedSimpArgs false

def HX : List UInt8 := [48, 49, 50, 51, 52, 53, 54, 55, 56, 57, 97, 98, 99, 100, 101, 102]
/-- A letter's value to the base 16. -/
def hv (c : UInt8) : Int := ix HX c
theorem hv_lt (c : UInt8) : hv c < 16 := ix_lt HX c
def hpair (l : List UInt8) (i : Nat) : UInt8 := UInt8.ofNat ((hv (l.getD (2 * i) 0)).toNat * 16 + (hv (l.getD (2 * i + 1) 0)).toNat)
def pairs (l : List UInt8) (n : Nat) : List UInt8 := (List.range n).map (hpair l)
theorem pairs_length (l : List UInt8) (n : Nat) : (pairs l n).length = n := by simp [pairs]
theorem pairs_succ (l : List UInt8) (n : Nat) : pairs l (n + 1) = pairs l n ++ [hpair l n] := by simp [pairs, List.range_succ]

theorem ixh (c : UInt8) (w : World) : Calls Try.prog 63 #[.string ⟨#[48, 49, 50, 51, 52, 53, 54, 55, 56, 57, 97, 98, 99, 100, 101, 102]⟩, u8c c] w fun e w' => e = .returned (.int .i64 (hv c)) ∧ w = w' :=
  ixb _ c w
theorem plh (c : UInt8) (w : World) : Calls Try.prog 64 #[.string ⟨#[48, 49, 50, 51, 52, 53, 54, 55, 56, 57, 97, 98, 99, 100, 101, 102]⟩, u8c c] w fun e w' => e = .returned (.int .i64 (hv c)) ∧ w = w' :=
  place_calls _ c w (by decide)

/-- What a text is to the base 16, where it is one: its bytes; else: where not. -/
def hOk (l : List UInt8) : Bool := decide (good HX l = l.length) && decide (l.length % 2 = 0)
def hAt (l : List UInt8) : Nat := if good HX l < l.length then good HX l else if l.length % 2 = 0 then 0 else l.length
def hBytes (l : List UInt8) : List UInt8 := if hOk l = true then pairs l (l.length / 2) else []
def hErr (l : List UInt8) : Int := if hOk l = true then 0 else 11

theorem or_fin : ∀ a b : Fin 16, IntKind.u8.wrap (bits BinOp.or IntKind.i64 (IntKind.i64.wrap ((a.val : Int) * 16)) (b.val : Int)) = ((UInt8.ofNat (a.val * 16 + b.val)).toNat : Int) := by decide +kernel
theorem bgetD (s : ByteArray) (k : Nat) (h : k < s.size) : s.data.toList.getD k 0 = s[k] := by
  rw [bget s k h, List.getD, List.getElem?_eq_getElem (by exact h)]; rfl
theorem or_byte (s : ByteArray) (k p q : Nat) (h3 : p < s.size) (h4 : q < s.size) (hp : p = 2 * k) (hq : q = 2 * k + 1) (hpos : 0 ≤ ix HX (s.data.toList[p]'h3) ∧ 0 ≤ ix HX (s.data.toList[q]'h4)) :
    IntKind.u8.wrap (bits BinOp.or IntKind.i64 (IntKind.i64.wrap (hv s[p] * 16)) (hv s[q])) = ((hpair s.data.toList k).toNat : Int) := by
  unfold hpair
  rw [← hq, ← hp, bgetD s p h3, bgetD s q h4]
  rw [← bget s p h3, ← bget s q h4] at hpos
  have h1 := hv_lt s[p]
  have h2 := hv_lt s[q]
  obtain ⟨a, ha⟩ : ∃ a : Nat, hv s[p] = (a : Int) := ⟨(hv s[p]).toNat, by have : 0 ≤ hv s[p] := hpos.1; omega⟩
  obtain ⟨b, hb⟩ : ∃ b : Nat, hv s[q] = (b : Int) := ⟨(hv s[q]).toNat, by have : 0 ≤ hv s[q] := hpos.2; omega⟩
  rw [ha] at h1 ⊢
  rw [hb] at h2 ⊢
  simpa using or_fin ⟨a, by omega⟩ ⟨b, by omega⟩

set_option maxHeartbeats 1000000 in
set_option maxRecDepth 100000 in
theorem unhex_loop (s : ByteArray) (w : World) (hs : s.size ≤ 140737488351232) (hg : good HX s.data.toList = s.size) (he : s.size % 2 = 0) :
    Calls Try.prog 38 #[.string s] w fun e w' => ∃ v, e = .returned (.tuple #[v, .int .i64 0, .int .i64 0]) ∧ Own w.heap.size w' v (pairs s.data.toList (s.size / 2)) ∧ Below w.heap.size w w' := by
  have hod : odd HX s.data.toList = -1 := by unfold odd; rw [if_neg (by have : s.data.toList.length = s.size := rfl; omega)]
  have hoc := odd_calls s ⟨#[48, 49, 50, 51, 52, 53, 54, 55, 56, 57, 97, 98, 99, 100, 101, 102]⟩ w (by unfold maxLen; omega)
  rw [show odd (ByteArray.mk #[48, 49, 50, 51, 52, 53, 54, 55, 56, 57, 97, 98, 99, 100, 101, 102]).data.toList s.data.toList = -1 from hod] at hoc
  have HO := Lib.hid hoc
  have HG := Lib.hid hg
  have HE := Lib.hid he
  clear hoc hod hg he
  go_enter Try.func38, Try.ntmps38
  go_wp2_with fail
  refine HO.out.mono ?_
  rintro e w1 ⟨rfl, hb1⟩
  have d0 : ((s.size : Int) % 2 == 1) = false := by have := HE.out; simp; omega
  go_wp2_with fail
  go_loopw [2, 21] (fun u i wr => ∃ k : Nat, k ≤ s.size / 2 ∧ i = .int .i64 (k : Int) ∧ Own w.heap.size wr u (pairs s.data.toList k) ∧ Below w.heap.size w wr) (fun _ i _ => s.size / 2 - (intOf i).toNat)
  case atStart => exact ⟨0, Nat.zero_le _, rfl, Own.nil _ _, hb1⟩
  case round =>
    obtain ⟨k, hk, rfl, hown, hbel⟩ := hrel
    by_cases hlt : k < s.size / 2
    · have d1 : decide ((k : Int) < (s.size : Int) / 2) = true := decide_eq_true (by omega)
      obtain ⟨p, hp⟩ : ∃ p : Nat, p = 2 * k := ⟨_, rfl⟩
      obtain ⟨q, hq⟩ : ∃ q : Nat, q = 2 * k + 1 := ⟨_, rfl⟩
      have i3 : p < s.size := by omega
      have i4 : q < s.size := by omega
      have e1 : IntKind.i64.wrap (2 * (k : Int)) = (p : Int) := by rw [IntWalk.i64_in _ (by omega)]; omega
      have e2 : IntKind.i64.wrap ((p : Int) + 1) = (q : Int) := by rw [IntWalk.i64_in _ (by omega)]; omega
      have hb := or_byte s k p q i3 i4 hp hq (by
        have hy := good_yes HX s.data.toList
        have h1 := hy p (by rw [HG.out]; exact i3)
        have h2 := hy q (by rw [HG.out]; exact i4)
        exact ⟨h1, h2⟩)
      have HB := Lib.hid hb
      clear hp hq hb
      go_wp2_with fail
      go_region_law (first | (go_simp; go_at_call 63; go_loud (refine (ixh _ _).mono ?_); rintro e w' ⟨rfl, rfl⟩) | (refine step_append rfl (.tmp 24) (.tmp 39) 52 5 rfl Try.underlying52 info8 rfl (by decide) (base := w.heap.size) (n := (pairs s.data.toList k).length) (xs := bcs (pairs s.data.toList k)) rfl (hown.alloc _) (m := 1) (cs := [_]) rfl (Row.one _ _ _) rfl (one_one rfl) (by have := pairs_length s.data.toList k; unfold maxLen; omega) (by have := pairs_length s.data.toList k; omega) (by have := hbel.size; simp; omega) ?_; intro v' w2 hown2 hgrow2))
      all_goals
        have hbel2 : Below w.heap.size w w2 := ((hbel.alloc hbel.size _).drew).grown hgrow2 (by have := hbel.size; simp; omega) (fun j hj => (hown.lt j hj).1)
        have hown3 : Own w.heap.size w2 v' (pairs s.data.toList (k + 1)) := by
          unfold Own
          rw [pairs_succ, List.length_append, bcs_append]
          rw [HB.out] at hown2
          exact hown2
        clear hown2 hgrow2 hown HB
        go_wp2
        go_roundw
        case rel => exact ⟨k + 1, by omega, by go_num, hown3, hbel2⟩
        case measure => simp [intOf]; omega
    · have hke : k = s.size / 2 := by omega
      have d1 : decide ((k : Int) < (s.size : Int) / 2) = false := decide_eq_false (by omega)
      subst hke
      go_wp2
      go_ret3
      exact ⟨_, rfl, hown, hbel⟩

end Go.Proofs.Ytmiffljcggfcgaa.Hex
