/- note.Text and the reference's. -/
import Derived.Test.YtfefcfjedlidnaaDoorNtN
namespace Go.Proofs.YtfefcfjedlidnaaDoor.Utf
open Go Go.RowKit Go.Proofs.YtfefcfjedlidnaaDoor.Cop
open Go.Lib (decodeN)
set_option linter.unusedVariables false
set_option linter.unusedSimpArgs false
def plainP (c : Nat) : Bool := c == 10 || (decide (32 ≤ c) && !(c == 127))
def sufB (s : ByteArray) : Bool := decide (1 ≤ s.size) && (at' s (s.size - 1) == 10)
def textB (s : ByteArray) : Bool := decide (s.size ≤ 1048576) && sufB s && okD plainP s.data.toList
set_option maxRecDepth 100000 in
theorem plain_calls (c : Nat) (hc : c ≤ 1114111) (w : World) : Calls Tryd.prog 95 #[.int .i32 (c : Int)] w fun e w' => e = .returned (.bool (plainP c)) ∧ w = w' := by
  rcases (show c = 10 ∨ (c < 32 ∧ c ≠ 10) ∨ c = 127 ∨ (32 ≤ c ∧ c ≠ 127) by omega) with h | h | h | h
  · subst h
    go_enter Tryd.func95, Tryd.ntmps95
    go_wp2_with fail
    go_ret
    exact ⟨rfl, rfl⟩
  · rw [show plainP c = false by simp [plainP]; omega]
    have h1 := h.1
    have h2 : ((c : Int) == 10) = false := by have := h.2; simp; omega
    clear h
    go_enter Tryd.func95, Tryd.ntmps95
    go_wp2_with fail
    go_ret
    exact ⟨by first | rfl | (simp; done) | (simp; omega), rfl⟩
  · subst h
    go_enter Tryd.func95, Tryd.ntmps95
    go_wp2_with fail
    go_ret
    exact ⟨rfl, rfl⟩
  · rw [show plainP c = true by simp [plainP]; omega]
    have h1 := h.1
    have h2 : ((c : Int) == 10) = false := by have := h.1; simp; omega
    have h3 : ((c : Int) != 127) = true := by have := h.2; simp; omega
    clear h
    go_enter Tryd.func95, Tryd.ntmps95
    go_wp2_with fail
    go_ret
    exact ⟨by first | rfl | (simp; done) | (simp; omega), rfl⟩
theorem last_ext (s : ByteArray) (h : 1 ≤ s.size) : decide (s.extract (s.size - 1) s.size = ⟨#[10]⟩) = (at' s (s.size - 1) == 10) := by
  have e : (s.extract (s.size - 1) s.size).data.toList = [UInt8.ofNat (at' s (s.size - 1))] := by
    rw [ByteArray.data_extract, Array.toList_extract, List.extract_eq_take_drop, at_get s (s.size - 1) (by omega), show s.size - (s.size - 1) = 1 by omega]
    simp
  have hlt := at_lt s (s.size - 1)
  rw [Bool.eq_iff_iff]
  simp only [decide_eq_true_eq, beq_iff_eq]
  constructor
  · intro h1
    rw [h1] at e
    simp at e
    have := congrArg UInt8.toNat e
    rw [UInt8.toNat_ofNat'] at this
    simp at this
    omega
  · intro h1
    rw [h1] at e
    apply ByteArray.ext
    apply Array.toList_inj.1
    rw [e]
    rfl
set_option maxRecDepth 100000 in
theorem lsuf_calls (s : ByteArray) (w : World) (hs : s.size ≤ 1048576) : Calls Tryd.prog 135 #[.string s, .string ⟨#[10]⟩] w fun e w' => e = .returned (.bool (sufB s)) ∧ w = w' := by
  by_cases h : 1 ≤ s.size
  · have he := last_ext s h
    rw [show sufB s = (at' s (s.size - 1) == 10) by simp [sufB, h]]
    generalize (at' s (s.size - 1) == 10) = R at he ⊢
    obtain ⟨n, hn⟩ : ∃ n, s.size - 1 = n := ⟨_, rfl⟩
    rw [hn] at he
    have hn2 : IntKind.i64.wrap ((s.size : Int) - 1) = (n : Int) := by have q := IntWalk.i64_in ((s.size : Int) - 1) (by omega); omega
    have hn3 : (s.size : Int) - 1 = (n : Int) := by omega
    have hn4 : n ≤ s.size := by omega
    have HE := Lib.hid he
    clear hn he
    go_enter Tryd.func135, Tryd.ntmps135
    go_wp2_with (((with_reducible refine gate_dst (N := 19) rfl ?_); go_loud (refine wp_eq_str rfl _ _ _ _ rfl rfl rfl (HE.out) ?_)))
    go_ret
    exact ⟨rfl, rfl⟩
  · rw [show sufB s = false by simp [sufB]; omega]
    have h0 : s.size < 1 := by omega
    clear h
    go_enter Tryd.func135, Tryd.ntmps135
    go_wp2_with fail
    go_ret
    exact ⟨rfl, rfl⟩
set_option maxRecDepth 100000 in
theorem suf_calls (s : ByteArray) (w : World) (hs : s.size ≤ 1048576) : Calls Tryd.prog 94 #[.string s, .string ⟨#[10]⟩] w fun e w' => e = .returned (.bool (sufB s)) ∧ w = w' := by
  have h := lsuf_calls s w hs
  clear hs
  go_enter Tryd.func94, Tryd.ntmps94
  go_wp2_with (go_at_call 135; go_loud (refine h.mono ?_); rintro e w' ⟨rfl, rfl⟩)
  go_ret
  exact ⟨rfl, rfl⟩
set_option maxRecDepth 100000 in
theorem rtext_calls (s : ByteArray) (w : World) : Calls Tryd.prog 45 #[.string s] w fun e w' => e = .returned (.bool (textB s)) ∧ w = w' := by
  rcases (show s.size < 1 ∨ 1048576 < s.size ∨ (1 ≤ s.size ∧ s.size ≤ 1048576) by omega) with h | h | h
  · rw [show textB s = false by simp [textB, sufB]; omega]
    go_enter Tryd.func45, Tryd.ntmps45
    go_wp2_with fail
    go_ret
    exact ⟨rfl, rfl⟩
  · rw [show textB s = false by simp [textB]; omega]
    go_enter Tryd.func45, Tryd.ntmps45
    go_wp2_with fail
    go_ret
    exact ⟨rfl, rfl⟩
  · have h1 := h.1
    have h2 := h.2
    clear h
    obtain ⟨n, hn⟩ : ∃ n, s.size - 1 = n := ⟨_, rfl⟩
    have hn2 : IntKind.i64.wrap ((s.size : Int) - 1) = (n : Int) := by have q := IntWalk.i64_in ((s.size : Int) - 1) (by omega); omega
    have hn3 : (s.size : Int) - 1 = (n : Int) := by omega
    have hn4 : n < s.size := by omega
    have hix := fun w => ix_str s n hn4 w
    obtain ⟨R, hR⟩ : ∃ R, okD plainP s.data.toList = R := ⟨_, rfl⟩
    have hlt := at_lt s n
    by_cases hl : at' s n = 10
    · rw [show textB s = R by simp [textB, sufB, h1, h2, hR, hn, hl]]
      rw [hl] at hix
      have HR := Lib.hid hR
      clear hR hl hn hlt
      go_enter Tryd.func45, Tryd.ntmps45
      go_wp2_with fail
      clear hn2 hn3 hn4 hix
      go_loop [3, 4, 5] (fun x _ _ => ∃ i : Nat, x = .int .i64 (i : Int) ∧ i ≤ s.size ∧ Hid (okD plainP (s.data.toList.drop i) = R)) (fun x _ _ => 1048577 - (intOf x).toNat)
      case atStart => exact ⟨0, rfl, by omega, HR.out⟩
      case round =>
        obtain ⟨i, rfl, hi, HI⟩ := hrel
        by_cases hn : i < s.size
        · have hrun := rune_calls s i hn (by omega)
          have hst := okD_rn plainP s i hn
          have hwd := rn_width s i hn
          have hle := rn_le s i
          rw [HI.out] at hst
          obtain ⟨c, n, hcn⟩ : ∃ c n, rn s i = (c, n) := ⟨_, _, rfl⟩
          rw [hcn] at hrun hst hwd hle
          simp only at hrun hst hwd hle
          have hw4 := hwd.1
          have hws := hwd.2
          have HS := Lib.hid hst
          clear hst hwd hcn
          by_cases hn0 : n = 0
          · subst hn0
            obtain rfl : R = false := by rw [HS.out]; rfl
            go_wp2_with (go_at_call 80; go_loud (refine (hrun _).mono ?_); rintro e w' ⟨rfl, rfl⟩)
            go_ret
            exact ⟨rfl, rfl⟩
          · have hn1 : 1 ≤ n := by omega
            have hn2 : ((n : Int) == 0) = false := by simp; omega
            rcases (show (c < 32 ∧ c ≠ 10) ∨ c = 127 ∨ c = 10 ∨ (32 ≤ c ∧ c ≠ 127) by omega) with g | g | g | g
            · obtain rfl : R = false := by rw [HS.out, if_neg hn0, show plainP c = false by simp [plainP]; omega]; rfl
              have g1 := g.1
              have g2 : ((c : Int) != 10) = true := by have := g.2; simp; omega
              clear hn0 g
              go_wp2_with (go_at_call 80; go_loud (refine (hrun _).mono ?_); rintro e w' ⟨rfl, rfl⟩)
              go_ret
              exact ⟨rfl, rfl⟩
            · obtain rfl : R = false := by rw [HS.out, if_neg hn0, show plainP c = false by simp [plainP]; omega]; rfl
              subst g
              clear hn0
              go_wp2_with (go_at_call 80; go_loud (refine (hrun _).mono ?_); rintro e w' ⟨rfl, rfl⟩)
              go_ret
              exact ⟨rfl, rfl⟩
            all_goals
              have HN : Hid (okD plainP (s.data.toList.drop (i + n)) = R) := by
                have := HS.out
                rw [if_neg hn0, show plainP c = true by simp [plainP]; omega] at this
                exact this.symm
              obtain ⟨j, hj⟩ : ∃ j, i + n = j := ⟨_, rfl⟩
              rw [hj] at HN hws
              have hj2 : (i : Int) + (n : Int) = (j : Int) := by omega
              have hj3 : i < j := by omega
              clear hn0 HS HI hj
            · subst g
              go_wp2_with (go_at_call 80; go_loud (refine (hrun _).mono ?_); rintro e w' ⟨rfl, rfl⟩)
              go_round
              case rel => exact ⟨j, by first | rfl | rw [hj2], hws, HN⟩
              case measure => simp [intOf]; omega
            · have g1 := g.1
              have g3 : ((c : Int) == 127) = false := by have := g.2; simp; omega
              clear g
              go_wp2_with (go_at_call 80; go_loud (refine (hrun _).mono ?_); rintro e w' ⟨rfl, rfl⟩)
              go_round
              case rel => exact ⟨j, by first | rfl | rw [hj2], hws, HN⟩
              case measure => simp [intOf]; omega
        · obtain rfl : i = s.size := by omega
          obtain rfl : R = true := by rw [← HI.out, List.drop_eq_nil_of_le (by rw [size_list]; omega), okD_nil]
          go_wp2_with fail
          go_ret
          exact ⟨rfl, rfl⟩
    · rw [show textB s = false by simp [textB, sufB, hn, hl]]
      have hb : ((at' s n : Int) != 10) = true := by simp; omega
      generalize at' s n = c at hix hb hlt
      clear hR hn hl
      go_enter Tryd.func45, Tryd.ntmps45
      go_wp2_with fail
      go_ret
      exact ⟨rfl, rfl⟩
set_option maxRecDepth 100000 in
theorem text_calls (s : ByteArray) (w : World) (hT : Tabs w) : Calls Tryd.prog 44 #[.string s] w fun e w' => e = .returned (.bool (textB s)) ∧ Below w.heap.size w w' := by
  by_cases hs : s.size ≤ 1048576
  · have hsu := suf_calls s w hs
    cases hb : sufB s with
    | false =>
      rw [show textB s = false by simp [textB, hb]]
      rw [hb] at hsu
      clear hb
      go_enter Tryd.func44, Tryd.ntmps44
      go_wp2_with (go_at_call 94; go_loud (refine hsu.mono ?_); rintro e w' ⟨rfl, rfl⟩)
      go_ret
      exact ⟨rfl, Below.refl _ _⟩
    | true =>
      have hv : Calls Tryd.prog 78 #[.string s] w _ := Any.utf8_ValidString Tryd.laysValid s w (by omega) hT
      obtain ⟨R, hR⟩ : ∃ R, okD plainP s.data.toList = R := ⟨_, rfl⟩
      rw [show textB s = R by simp [textB, hb, hs, hR]]
      rw [hb] at hsu
      obtain ⟨V, hV⟩ : ∃ V, Lib.validD s.data.toList = V := ⟨_, rfl⟩
      have hRV : V = false → R = false := fun e => by rw [← hR]; exact okD_valid _ _ _ (Nat.le_refl _) (hV.trans e)
      rw [hV] at hv
      have HR := Lib.hid hR
      have HV := Lib.hid hV
      clear hR hV hT hb
      cases V with
      | false =>
        obtain rfl : R = false := hRV rfl
        clear hRV
        go_enter Tryd.func44, Tryd.ntmps44
        go_wp2_with (first | (go_at_call 94; go_loud (refine hsu.mono ?_); rintro e w' ⟨rfl, rfl⟩) | (go_at_call 78; go_loud (refine hv.mono ?_); rintro e w1 ⟨rfl, hb1⟩))
        go_ret
        exact ⟨rfl, hb1⟩
      | true =>
        clear hRV
        go_enter Tryd.func44, Tryd.ntmps44
        go_wp2_with (first | (go_at_call 94; go_loud (refine hsu.mono ?_); rintro e w' ⟨rfl, rfl⟩) | (go_at_call 78; go_loud (refine hv.mono ?_); rintro e w1 ⟨rfl, hb1⟩))
        clear hv hsu
        go_loopw [4] (fun _ wr => ∃ i : Nat, wr = w1.iter s i ∧ i ≤ s.size ∧ Hid (okD plainP (s.data.toList.drop i) = R ∧ Lib.validD (s.data.toList.drop i) = true)) (fun _ wr => s.size - wr.iterPos w1.heap.size)
        case atStart => exact ⟨0, rfl, by omega, HR.out, HV.out⟩
        case round =>
          obtain ⟨i, rfl, hi, HI⟩ := hrel
          have hbi : Below w.heap.size w (w1.iter s i) := hb1.alloc hb1.size _
          by_cases hn : i < s.size
          · have hnx : ∀ ty, (Instr.next (.pointer (some ⟨w1.heap.size, 0, none⟩)) true ty).run Tryd.prog (w1.iter s i) = _ := fun ty => run_next_any w1 s i ty hn
            have hst := okD_step plainP _ (drop_ne s i hn)
            have hvs := Lib.validD_step _ (drop_ne s i hn)
            have hwd := rn_width s i hn
            have hw1 := Lib.decodeL_width (s.data.toList.drop i)
            have hle := Lib.decodeL_rune (s.data.toList.drop i)
            rw [HI.out.1, Lib.decodeL_drop, List.drop_drop] at hst
            rw [HI.out.2, Lib.decodeL_drop, List.drop_drop] at hvs
            rw [Lib.decodeL_drop] at hw1 hle
            unfold rn at hwd
            obtain ⟨c, n, hcn⟩ : ∃ c n, Utf8.decode s i = (c, n) := ⟨_, _, rfl⟩
            rw [hcn] at hnx hst hvs hwd hw1 hle
            simp only at hnx hst hvs hwd hw1 hle
            by_cases hbad : c = 65533 ∧ n = 1
            · rw [if_pos hbad] at hvs
              cases hvs
            rw [if_neg hbad] at hst hvs hwd
            simp only at hwd
            have hws := hwd.2
            have hodd := plain_calls c hle
            have HB := Lib.hid hbad
            clear hwd hcn hbad
            cases ho : plainP c with
            | false =>
              obtain rfl : R = false := by rw [hst, ho]; rfl
              rw [ho] at hodd
              clear hst hvs ho
              have hbi2 : Below w.heap.size w (w1.iter s (i + n)) := hb1.alloc hb1.size _
              go_wp2_with (go_at_call 95; go_loud (refine (hodd _).mono ?_); rintro e w' ⟨rfl, rfl⟩)
              go_ret
              exact ⟨rfl, hbi2⟩
            | true =>
              rw [ho] at hst hodd
              have HN : Hid (okD plainP (s.data.toList.drop (i + n)) = R ∧ Lib.validD (s.data.toList.drop (i + n)) = true) := ⟨hst.symm, hvs.symm⟩
              clear hst hvs ho
              go_wp2_with (go_at_call 95; go_loud (refine (hodd _).mono ?_); rintro e w' ⟨rfl, rfl⟩)
              go_roundw
              case rel => exact ⟨i + n, rfl, hws, HN⟩
              case measure => simp; omega
          · have hnx : ∀ ty, (Instr.next (.pointer (some ⟨w1.heap.size, 0, none⟩)) true ty).run Tryd.prog (w1.iter s i) = _ := fun ty => run_next_end w1 s i ty hn
            obtain rfl : i = s.size := by omega
            obtain rfl : R = true := by rw [← HI.out.1, List.drop_eq_nil_of_le (by rw [size_list]; omega), okD_nil]
            go_wp2_with fail
            go_ret
            exact ⟨rfl, hbi⟩
  · rw [show textB s = false by simp [textB, hs]]
    have h0 : 1048576 < s.size := by omega
    clear hs hT
    go_enter Tryd.func44, Tryd.ntmps44
    go_wp2_with fail
    go_ret
    exact ⟨rfl, Below.refl _ _⟩
end Go.Proofs.YtfefcfjedlidnaaDoor.Utf
