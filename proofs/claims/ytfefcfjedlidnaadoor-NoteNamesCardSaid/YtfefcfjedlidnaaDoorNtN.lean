/- note.Name, note.Text and the reference's. -/
import Derived.Test.YtfefcfjedlidnaaDoorUtV
namespace Go.Proofs.YtfefcfjedlidnaaDoor.Utf
open Go Go.RowKit Go.Proofs.YtfefcfjedlidnaaDoor.Cop
open Go.Lib (decodeN)
set_option linter.unusedVariables false
set_option linter.unusedSimpArgs false
def nameP (c : Nat) : Bool := decide (33 ≤ c) && decide (c ≤ 126) && !(c == 43)
def nmGo (l : List UInt8) : Bool := l.all fun b => nameP b.toNat
def nameB (s : ByteArray) : Bool := decide (1 ≤ s.size) && decide (s.size ≤ 64) && nmGo s.data.toList
theorem size_list (s : ByteArray) : s.data.toList.length = s.size := by cases s; simp [ByteArray.size]
theorem at_get (s : ByteArray) (i : Nat) (h : i < s.size) : s.data.toList.drop i = UInt8.ofNat (at' s i) :: s.data.toList.drop (i + 1) := by
  rw [List.drop_eq_getElem_cons (by rw [size_list]; exact h)]
  congr 1
  simp only [at', List.getD_eq_getElem?_getD]
  rw [List.getElem?_eq_getElem (by rw [size_list]; exact h)]
  simp
theorem nm_step (s : ByteArray) (i : Nat) (h : i < s.size) : nmGo (s.data.toList.drop i) = (nameP (at' s i) && nmGo (s.data.toList.drop (i + 1))) := by
  rw [at_get s i h]
  unfold nmGo
  rw [List.all_cons]
  have := at_lt s i
  have e : (UInt8.ofNat (at' s i)).toNat = at' s i := by rw [UInt8.toNat_ofNat']; omega
  rw [e]
theorem dec_hi (s : ByteArray) (i : Nat) (h : 128 ≤ at' s i) : 128 ≤ (Utf8.decode s i).1 := by
  have := at_lt s i
  rw [dec]
  unfold decodeN
  repeat' split
  all_goals (simp only; omega)
theorem dec_lo (s : ByteArray) (i : Nat) (h : at' s i < 128) : Utf8.decode s i = (at' s i, 1) := by
  rw [dec]
  unfold decodeN
  rw [if_pos h]
theorem nm_dec (s : ByteArray) (i : Nat) (h : i < s.size) (c n : Nat) (hc : Utf8.decode s i = (c, n)) : (nameP c = false → nmGo (s.data.toList.drop i) = false) ∧ (nameP c = true → n = 1 ∧ nmGo (s.data.toList.drop (i + 1)) = nmGo (s.data.toList.drop i)) := by
  rw [nm_step s i h]
  by_cases hlo : at' s i < 128
  · rw [dec_lo s i hlo] at hc
    injection hc with h1 h2
    subst h1
    exact ⟨fun e => by rw [e]; rfl, fun e => ⟨h2.symm, by rw [e]; rfl⟩⟩
  · have h1 := dec_hi s i (by omega)
    rw [hc] at h1
    have e : nameP c = false := by simp only at h1; simp [nameP]; omega
    have e2 : nameP (at' s i) = false := by simp [nameP]; omega
    refine ⟨fun _ => by rw [e2]; rfl, fun e3 => by rw [e] at e3; cases e3⟩
set_option maxRecDepth 100000 in
theorem rname_calls (s : ByteArray) (w : World) : Calls Tryd.prog 43 #[.string s] w fun e w' => e = .returned (.bool (nameB s)) ∧ w = w' := by
  rcases (show s.size < 1 ∨ 64 < s.size ∨ (1 ≤ s.size ∧ s.size ≤ 64) by omega) with h | h | h
  · rw [show nameB s = false by simp [nameB]; omega]
    go_enter Tryd.func43, Tryd.ntmps43
    go_wp2_with fail
    go_ret
    exact ⟨rfl, rfl⟩
  · rw [show nameB s = false by simp [nameB]; omega]
    go_enter Tryd.func43, Tryd.ntmps43
    go_wp2_with fail
    go_ret
    exact ⟨rfl, rfl⟩
  · obtain ⟨R, hR⟩ : ∃ R, nmGo s.data.toList = R := ⟨_, rfl⟩
    rw [show nameB s = R by simp [nameB, h.1, h.2, hR]]
    have HR := Lib.hid hR
    clear hR
    have h1 := h.1
    have h2 := h.2
    clear h
    go_enter Tryd.func43, Tryd.ntmps43
    go_wp2_with fail
    go_loop [3] (fun x => ∃ i : Nat, x = .int .i64 (i : Int) ∧ i ≤ s.size ∧ Hid (nmGo (s.data.toList.drop i) = R)) (fun x => 65 - (intOf x).toNat)
    case atStart => exact ⟨0, rfl, by omega, HR.out⟩
    case round =>
      obtain ⟨i, rfl, hi, HI⟩ := hrel
      by_cases hn : i < s.size
      · have hix := fun w => ix_str s i hn w
        have hst := nm_step s i hn
        rw [HI.out] at hst
        obtain ⟨c, hc⟩ : ∃ c, at' s i = c := ⟨_, rfl⟩
        rw [hc] at hix hst
        have HS := Lib.hid hst
        clear hst hc
        rcases (show c < 33 ∨ (126 < c ∧ 33 ≤ c) ∨ c = 43 ∨ (33 ≤ c ∧ c ≤ 126 ∧ c ≠ 43) by omega) with g | g | g | g
        · obtain rfl : R = false := by rw [HS.out, show nameP c = false by simp [nameP]; omega]; rfl
          go_wp2_with fail
          go_ret
          exact ⟨rfl, rfl⟩
        · obtain rfl : R = false := by rw [HS.out, show nameP c = false by simp [nameP]; omega]; rfl
          have g1 := g.1
          have g2 := g.2
          clear g
          go_wp2_with fail
          go_ret
          exact ⟨rfl, rfl⟩
        · subst g
          obtain rfl : R = false := by rw [HS.out, show nameP 43 = false from rfl]; rfl
          go_wp2_with fail
          go_ret
          exact ⟨rfl, rfl⟩
        · have g1 := g.1
          have g2 := g.2.1
          have g3 : ((c : Int) == 43) = false := by have := g.2.2; simp; omega
          have HN : Hid (nmGo (s.data.toList.drop (i + 1)) = R) := by
            have := HS.out
            rw [show nameP c = true by simp [nameP]; omega, Bool.true_and] at this
            exact this.symm
          clear g HS HI
          go_wp2_with fail
          go_round
          case rel => exact ⟨i + 1, by go_num, by omega, HN⟩
          case measure => simp [intOf]; omega
      · obtain rfl : i = s.size := by omega
        obtain rfl : R = true := by rw [← HI.out, List.drop_eq_nil_of_le (by rw [size_list]; omega)]; rfl
        go_wp2_with fail
        go_ret
        exact ⟨rfl, rfl⟩
set_option maxRecDepth 100000 in
theorem name_calls (s : ByteArray) (w : World) : Calls Tryd.prog 42 #[.string s] w fun e w' => e = .returned (.bool (nameB s)) ∧ Below w.heap.size w w' := by
  rcases (show s.size < 1 ∨ 64 < s.size ∨ (1 ≤ s.size ∧ s.size ≤ 64) by omega) with h | h | h
  · rw [show nameB s = false by simp [nameB]; omega]
    go_enter Tryd.func42, Tryd.ntmps42
    go_wp2_with fail
    go_ret
    exact ⟨rfl, Below.refl _ _⟩
  · rw [show nameB s = false by simp [nameB]; omega]
    go_enter Tryd.func42, Tryd.ntmps42
    go_wp2_with fail
    go_ret
    exact ⟨rfl, Below.refl _ _⟩
  · obtain ⟨R, hR⟩ : ∃ R, nmGo s.data.toList = R := ⟨_, rfl⟩
    rw [show nameB s = R by simp [nameB, h.1, h.2, hR]]
    have HR := Lib.hid hR
    clear hR
    have h1 := h.1
    have h2 := h.2
    clear h
    go_enter Tryd.func42, Tryd.ntmps42
    go_wp2_with fail
    go_loopw [4] (fun _ wr => ∃ i : Nat, wr = w.iter s i ∧ i ≤ s.size ∧ Hid (nmGo (s.data.toList.drop i) = R)) (fun _ wr => s.size - wr.iterPos w.heap.size)
    case atStart => exact ⟨0, rfl, by omega, HR.out⟩
    case round =>
      obtain ⟨i, rfl, hi, HI⟩ := hrel
      have hbi : Below w.heap.size w (w.iter s i) := (Below.refl _ _).alloc (Nat.le_refl _) _
      by_cases hn : i < s.size
      · have hnx : ∀ ty, (Instr.next (.pointer (some ⟨w.heap.size, 0, none⟩)) true ty).run Tryd.prog (w.iter s i) = _ := fun ty => run_next_any w s i ty hn
        have hle := Lib.decodeL_rune (s.data.toList.drop i)
        rw [Lib.decodeL_drop] at hle
        obtain ⟨c, n, hcn⟩ : ∃ c n, Utf8.decode s i = (c, n) := ⟨_, _, rfl⟩
        have hst := nm_dec s i hn c n hcn
        rw [HI.out] at hst
        rw [hcn] at hnx hle
        simp only at hnx hle
        have HS := Lib.hid hst
        clear hst hcn
        have hbi2 : Below w.heap.size w (w.iter s (i + n)) := (Below.refl _ _).alloc (Nat.le_refl _) _
        rcases (show c < 33 ∨ (126 < c ∧ 33 ≤ c) ∨ c = 43 ∨ (33 ≤ c ∧ c ≤ 126 ∧ c ≠ 43) by omega) with g | g | g | g
        · obtain rfl : R = false := HS.out.1 (by simp [nameP]; omega)
          go_wp2_with fail
          go_ret
          exact ⟨rfl, hbi2⟩
        · obtain rfl : R = false := HS.out.1 (by simp [nameP]; omega)
          have g1 := g.1
          have g2 := g.2
          clear g
          go_wp2_with fail
          go_ret
          exact ⟨rfl, hbi2⟩
        · subst g
          obtain rfl : R = false := HS.out.1 rfl
          go_wp2_with fail
          go_ret
          exact ⟨rfl, hbi2⟩
        · have g1 := g.1
          have g2 := g.2.1
          have g3 : ((c : Int) == 43) = false := by have := g.2.2; simp; omega
          obtain ⟨rfl, hN⟩ := HS.out.2 (by simp [nameP]; omega)
          have HN := Lib.hid hN
          clear g HS HI hN
          go_wp2_with fail
          go_roundw
          case rel => exact ⟨i + 1, rfl, by omega, HN⟩
          case measure => simp; omega
      · have hnx : ∀ ty, (Instr.next (.pointer (some ⟨w.heap.size, 0, none⟩)) true ty).run Tryd.prog (w.iter s i) = _ := fun ty => run_next_end w s i ty hn
        obtain rfl : i = s.size := by omega
        obtain rfl : R = true := by rw [← HI.out, List.drop_eq_nil_of_le (by rw [size_list]; omega)]; rfl
        go_wp2_with fail
        go_ret
        exact ⟨rfl, hbi⟩
end Go.Proofs.YtfefcfjedlidnaaDoor.Utf
