/- Texts to the base 64 read: plain laws, and what is cut off a text's end. -/
import Derived.Test.YtmiffljcggfcgaaHexU
namespace Go.Proofs.Ytmiffljcggfcgaa.B64
open Go Go.RowKit Go.Proofs.Ytmiffljcggfcgaa.Cop Go.Proofs.Ytmiffljcggfcgaa.Oct Go.Proofs.Ytmiffljcggfcgaa.Hex
set_option linter.unusedVariables false
set_option linter.unusedSimpArgs false

def SX : List UInt8 := [65, 66, 67, 68, 69, 70, 71, 72, 73, 74, 75, 76, 77, 78, 79, 80, 81, 82, 83, 84, 85, 86, 87, 88, 89, 90, 97, 98, 99, 100, 101, 102, 103, 104, 105, 106, 107, 108, 109, 110, 111, 112, 113, 114, 115, 116, 117, 118, 119, 120, 121, 122, 48, 49, 50, 51, 52, 53, 54, 55, 56, 57, 43, 47]
def sv (c : UInt8) : Int := ix SX c
theorem sv_lt (c : UInt8) : sv c < 64 := ix_lt SX c
theorem ixs (c : UInt8) (w : World) : Calls Try.prog 63 #[.string ⟨#[65, 66, 67, 68, 69, 70, 71, 72, 73, 74, 75, 76, 77, 78, 79, 80, 81, 82, 83, 84, 85, 86, 87, 88, 89, 90, 97, 98, 99, 100, 101, 102, 103, 104, 105, 106, 107, 108, 109, 110, 111, 112, 113, 114, 115, 116, 117, 118, 119, 120, 121, 122, 48, 49, 50, 51, 52, 53, 54, 55, 56, 57, 43, 47]⟩, u8c c] w fun e w' => e = .returned (.int .i64 (sv c)) ∧ w = w' :=
  ixb _ c w
theorem pls (c : UInt8) (w : World) : Calls Try.prog 64 #[.string ⟨#[65, 66, 67, 68, 69, 70, 71, 72, 73, 74, 75, 76, 77, 78, 79, 80, 81, 82, 83, 84, 85, 86, 87, 88, 89, 90, 97, 98, 99, 100, 101, 102, 103, 104, 105, 106, 107, 108, 109, 110, 111, 112, 113, 114, 115, 116, 117, 118, 119, 120, 121, 122, 48, 49, 50, 51, 52, 53, 54, 55, 56, 57, 43, 47]⟩, u8c c] w fun e w' => e = .returned (.int .i64 (sv c)) ∧ w = w' :=
  place_calls _ c w (by decide)

/-- One letter '=' is cut off the end of the first n letters. -/
def t1 (l : List UInt8) (n : Nat) : Nat := if 0 < n ∧ l.getD (n - 1) 0 = 61 then n - 1 else n
def tn (l : List UInt8) : Nat := t1 l (t1 l l.length)
theorem t1_le (l : List UInt8) (n : Nat) : t1 l n ≤ n := by unfold t1; split <;> omega
theorem tn_le (l : List UInt8) : tn l ≤ l.length := Nat.le_trans (t1_le _ _) (t1_le _ _)
theorem trim_eq (m : List UInt8) : Lib.trimSuffix m [61] = m.take (t1 m m.length) := by
  unfold Lib.trimSuffix Lib.hasSuffix t1
  rcases List.eq_nil_or_concat m with rfl | ⟨r, x, rfl⟩
  · rfl
  · rw [List.concat_eq_append]
    have hs : (List.isSuffixOf [61] (r ++ [x]) = true) ↔ x = 61 := by
      rw [List.isSuffixOf_iff_suffix]
      constructor
      · rintro ⟨t, ht⟩
        have := List.append_inj_right' ht rfl
        simpa using this.symm
      · rintro rfl
        exact ⟨r, rfl⟩
    have hg : (r ++ [x]).getD ((r ++ [x]).length - 1) 0 = x := by simp [List.getD]
    by_cases hx : x = 61
    · rw [if_pos (hs.2 hx), if_pos ⟨by simp, by rw [hg]; exact hx⟩]; rfl
    · rw [if_neg (fun h => hx (hs.1 h)), if_neg (fun h => hx (by rw [← hg]; exact h.2)), List.take_length]
theorem t1_take (l : List UInt8) (n : Nat) (h : n ≤ l.length) : t1 (l.take n) (l.take n).length = t1 l n := by
  unfold t1
  rw [List.length_take, Nat.min_eq_left h]
  by_cases h0 : 0 < n
  · have hlt : n - 1 < n := by omega
    have : (l.take n).getD (n - 1) 0 = l.getD (n - 1) 0 := by simp only [List.getD, List.getElem?_take]; rw [if_pos hlt]
    rw [this]
  · rw [if_neg (fun h => h0 h.1), if_neg (fun h => h0 h.1)]
theorem trim_take (l : List UInt8) (n : Nat) (h : n ≤ l.length) : Lib.trimSuffix (l.take n) [61] = l.take (t1 l n) := by
  rw [trim_eq, t1_take l n h, List.take_take, Nat.min_eq_left (t1_le l n)]

theorem trim_calls (s : ByteArray) (w : World) (hs : s.size ≤ 9223372036854775807) :
    Calls Try.prog 67 #[.string s, .string ⟨#[61]⟩] w fun e w' => ∃ b : ByteArray, e = .returned (.string b) ∧ b.data.toList = Lib.trimSuffix s.data.toList [61] ∧ w = w' := by
  refine (Try.strings_TrimSuffix s ⟨#[61]⟩ w hs).mono ?_
  rintro e w' ⟨rfl, rfl⟩
  exact ⟨_, rfl, rfl, rfl⟩

/-- Letters read: what is over, how many bits of it, and the bytes. -/
def step6 (st : Nat × Nat × List UInt8) (d : Nat) : Nat × Nat × List UInt8 :=
  if 8 ≤ st.2.1 + 6 then ((st.1 * 64 + d) % 2 ^ (st.2.1 + 6 - 8), st.2.1 + 6 - 8, st.2.2 ++ [UInt8.ofNat ((st.1 * 64 + d) / 2 ^ (st.2.1 + 6 - 8))]) else (st.1 * 64 + d, st.2.1 + 6, st.2.2)
def read6 (l : List UInt8) : Nat × Nat × List UInt8 := l.foldl (fun st c => step6 st (sv c).toNat) (0, 0, [])
theorem read6_succ (l : List UInt8) (k : Nat) (h : k < l.length) : read6 (l.take (k + 1)) = step6 (read6 (l.take k)) (sv l[k]).toNat := by
  unfold read6
  rw [List.take_succ_eq_append_getElem h, List.foldl_append]
  rfl
/-- What holds of the state: few bits, and no more over than they hold. -/
def St (st : Nat × Nat × List UInt8) (k : Nat) : Prop := (st.2.1 = 0 ∨ st.2.1 = 2 ∨ st.2.1 = 4 ∨ st.2.1 = 6) ∧ st.1 < 2 ^ st.2.1 ∧ st.2.2.length ≤ k
theorem St.zero : St (read6 []) 0 := ⟨.inl rfl, by decide, Nat.le_refl _⟩

/-- Where a text is none, and why; its bytes. -/
def body (l : List UInt8) : List UInt8 := l.take (tn l)
theorem body_length (l : List UInt8) : (body l).length = tn l := by
  unfold body; rw [List.length_take, Nat.min_eq_left (tn_le l)]
def sOk (l : List UInt8) : Bool := decide (good SX (body l) = tn l) && decide (l.length % 4 = 0) && decide ((read6 (body l)).1 = 0)
def sAt (l : List UInt8) : Int := if good SX (body l) < tn l then (good SX (body l) : Int) else if l.length % 4 = 0 then (if (read6 (body l)).1 = 0 then 0 else (tn l : Int) - 1) else (l.length : Int)
def sBytes (l : List UInt8) : List UInt8 := if sOk l = true then (read6 (body l)).2.2 else []
def sErr (l : List UInt8) : Int := if sOk l = true then 0 else 11
def SixRet (l : List UInt8) (w : World) : Ending → World → Prop := fun e w' =>
  ∃ v, e = .returned (.tuple #[v, .int .i64 (sAt l), .int .i64 (sErr l)]) ∧ Own w.heap.size w' v (sBytes l) ∧ Below w.heap.size w w'

/-- The four ways that an answer comes to be. -/
theorem six_bad {l : List UInt8} (h : good SX (body l) < tn l) : sAt l = (good SX (body l) : Int) ∧ sErr l = 11 ∧ sBytes l = [] := by
  have hok : ¬ sOk l = true := by
    intro h'; unfold sOk at h'; simp only [Bool.and_eq_true, decide_eq_true_eq] at h'; omega
  refine ⟨?_, ?_, ?_⟩
  · unfold sAt; rw [if_pos h]
  · unfold sErr; rw [if_neg hok]
  · unfold sBytes; rw [if_neg hok]
theorem six_odd {l : List UInt8} (h : ¬ good SX (body l) < tn l) (h4 : ¬ l.length % 4 = 0) : sAt l = (l.length : Int) ∧ sErr l = 11 ∧ sBytes l = [] := by
  have hok : ¬ sOk l = true := by
    intro h'; unfold sOk at h'; simp only [Bool.and_eq_true, decide_eq_true_eq] at h'; omega
  refine ⟨?_, ?_, ?_⟩
  · unfold sAt; rw [if_neg h, if_neg h4]
  · unfold sErr; rw [if_neg hok]
  · unfold sBytes; rw [if_neg hok]
theorem six_over {l : List UInt8} (h : ¬ good SX (body l) < tn l) (h4 : l.length % 4 = 0) (h0 : ¬ (read6 (body l)).1 = 0) : sAt l = (tn l : Int) - 1 ∧ sErr l = 11 ∧ sBytes l = [] := by
  have hok : ¬ sOk l = true := by
    intro h'; unfold sOk at h'; simp only [Bool.and_eq_true, decide_eq_true_eq] at h'; omega
  refine ⟨?_, ?_, ?_⟩
  · unfold sAt; rw [if_neg h, if_pos h4, if_neg h0]
  · unfold sErr; rw [if_neg hok]
  · unfold sBytes; rw [if_neg hok]
theorem six_fine {l : List UInt8} (h : ¬ good SX (body l) < tn l) (h4 : l.length % 4 = 0) (h0 : (read6 (body l)).1 = 0) : sAt l = 0 ∧ sErr l = 0 ∧ sBytes l = (read6 (body l)).2.2 := by
  have hle := good_le SX (body l)
  rw [body_length] at hle
  have hok : sOk l = true := by
    unfold sOk; simp only [Bool.and_eq_true, decide_eq_true_eq]; exact ⟨⟨by omega, h4⟩, h0⟩
  refine ⟨?_, ?_, ?_⟩
  · unfold sAt; rw [if_neg h, if_pos h4, if_pos h0]
  · unfold sErr; rw [if_pos hok]
  · unfold sBytes; rw [if_pos hok]
end Go.Proofs.Ytmiffljcggfcgaa.B64
