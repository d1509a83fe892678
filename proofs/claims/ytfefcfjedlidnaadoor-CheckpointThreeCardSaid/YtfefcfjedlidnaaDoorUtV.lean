/- utf8.ValidString by the kit's contract; checkpoint.odd; origins. -/
import Derived.Test.YtfefcfjedlidnaaDoorRune
import Derived.Ground.NamesProg
import Derived.Shelf.Lay
import Derived.Shelf.Unicode.ValidAny
import Derived.Laws.RangeAny
namespace Go.Proofs.YtfefcfjedlidnaaDoor
open Go.RowKit Go.Shelf Go.Lib
shelf_lay Lays.n196 Nm 196 at Tryd as Tryd.laysValid
end Go.Proofs.YtfefcfjedlidnaaDoor
namespace Go.Proofs.YtfefcfjedlidnaaDoor.Utf
open Go Go.RowKit Go.Proofs.YtfefcfjedlidnaaDoor.Cop
set_option linter.unusedVariables false
set_option linter.unusedSimpArgs false
def Tabs (w : World) : Prop := Lib.Utf8Tabs (Tryd.laysValid_ren.g 3) (Tryd.laysValid_ren.g 4) w
def oddP (c : Nat) : Bool := decide (c < 33) || (decide (127 ≤ c) && decide (c ≤ 160)) || c == 43
set_option maxRecDepth 100000 in
theorem odd_calls (c : Nat) (hc : c ≤ 1114111) (w : World) : Calls Tryd.prog 79 #[.int .i32 (c : Int)] w fun e w' => e = .returned (.bool (oddP c)) ∧ w = w' := by
  rcases (show c < 33 ∨ c = 43 ∨ (127 ≤ c ∧ c ≤ 160) ∨ (33 ≤ c ∧ c < 127 ∧ c ≠ 43) ∨ 160 < c by omega) with h | h | h | h | h
  · rw [show oddP c = true by simp [oddP, h]]
    go_enter Tryd.func79, Tryd.ntmps79
    go_wp2_with fail
    go_ret
    exact ⟨rfl, rfl⟩
  · subst h
    go_enter Tryd.func79, Tryd.ntmps79
    go_wp2_with fail
    go_ret
    exact ⟨rfl, rfl⟩
  · rw [show oddP c = true by simp [oddP]; omega]
    have h1 := h.1
    have h2 := h.2
    clear h
    go_enter Tryd.func79, Tryd.ntmps79
    go_wp2_with fail
    go_ret
    exact ⟨rfl, rfl⟩
  · rw [show oddP c = false by simp [oddP]; omega]
    have h1 := h.1
    have h2 := h.2.1
    have h3 : ((c : Int) == 43) = false := by have := h.2.2; simp; omega
    clear h
    go_enter Tryd.func79, Tryd.ntmps79
    go_wp2_with fail
    go_ret
    exact ⟨by simp; omega, rfl⟩
  · rw [show oddP c = false by simp [oddP]; omega]
    have h3 : ((c : Int) == 43) = false := by simp; omega
    go_enter Tryd.func79, Tryd.ntmps79
    go_wp2_with fail
    go_ret
    exact ⟨by simp; omega, rfl⟩
def origB (s : ByteArray) : Bool := decide (1 ≤ s.size) && decide (s.size ≤ 100) && okD (fun c => !oddP c) s.data.toList
set_option maxRecDepth 100000 in
theorem rorigin_calls (s : ByteArray) (w : World) : Calls Tryd.prog 31 #[.string s] w fun e w' => e = .returned (.bool (origB s)) ∧ w = w' := by
  rcases (show s.size < 1 ∨ 100 < s.size ∨ (1 ≤ s.size ∧ s.size ≤ 100) by omega) with h | h | h
  · rw [show origB s = false by simp [origB]; omega]
    go_enter Tryd.func31, Tryd.ntmps31
    go_wp2_with fail
    go_ret
    exact ⟨rfl, rfl⟩
  · rw [show origB s = false by simp [origB]; omega]
    go_enter Tryd.func31, Tryd.ntmps31
    go_wp2_with fail
    go_ret
    exact ⟨rfl, rfl⟩
  · obtain ⟨R, hR⟩ : ∃ R, okD (fun c => !oddP c) s.data.toList = R := ⟨_, rfl⟩
    rw [show origB s = R by simp [origB, h.1, h.2, hR]]
    have HR := Lib.hid hR
    clear hR
    have h1 := h.1
    have h2 := h.2
    clear h
    go_enter Tryd.func31, Tryd.ntmps31
    go_wp2_with fail
    go_loop [3] (fun x => ∃ i : Nat, x = .int .i64 (i : Int) ∧ i ≤ s.size ∧ Hid (okD (fun c => !oddP c) (s.data.toList.drop i) = R)) (fun x => 101 - (intOf x).toNat)
    case atStart => exact ⟨0, rfl, by omega, HR.out⟩
    case round =>
      obtain ⟨i, rfl, hi, HI⟩ := hrel
      by_cases hn : i < s.size
      · have hrun := rune_calls s i hn (by omega)
        have hst := okD_rn (fun c => !oddP c) s i hn
        have hwd := rn_width s i hn
        have hle := rn_le s i
        rw [HI.out] at hst
        obtain ⟨c, n, hcn⟩ : ∃ c n, rn s i = (c, n) := ⟨_, _, rfl⟩
        rw [hcn] at hrun hst hwd hle
        simp only at hrun hst hwd hle
        have hw4 := hwd.1
        have hws := hwd.2
        have HS := Lib.hid hst
        clear hst hwd hcn
        by_cases hn0 : n = 0
        · subst hn0
          obtain rfl : R = false := by rw [HS.out]; rfl
          go_wp2_with (go_at_call 80; go_loud (refine (hrun _).mono ?_); rintro e w' ⟨rfl, rfl⟩)
          go_ret
          exact ⟨rfl, rfl⟩
        · have hn1 : 1 ≤ n := by omega
          have hn2 : ((n : Int) == 0) = false := by simp; omega
          rcases (show c < 33 ∨ c = 43 ∨ (127 ≤ c ∧ c ≤ 160) ∨ (33 ≤ c ∧ c < 127 ∧ c ≠ 43) ∨ 160 < c by omega) with g | g | g | g | g
          · obtain rfl : R = false := by rw [HS.out, if_neg hn0]; simp [oddP, g]
            clear hn0
            go_wp2_with (go_at_call 80; go_loud (refine (hrun _).mono ?_); rintro e w' ⟨rfl, rfl⟩)
            go_ret
            exact ⟨rfl, rfl⟩
          · obtain rfl : R = false := by rw [HS.out, if_neg hn0]; simp [oddP, g]
            subst g
            clear hn0
            go_wp2_with (go_at_call 80; go_loud (refine (hrun _).mono ?_); rintro e w' ⟨rfl, rfl⟩)
            go_ret
            exact ⟨rfl, rfl⟩
          · obtain rfl : R = false := by rw [HS.out, if_neg hn0]; simp [oddP, g.1, g.2]
            have g1 := g.1
            have g2 := g.2
            clear hn0 g
            go_wp2_with (go_at_call 80; go_loud (refine (hrun _).mono ?_); rintro e w' ⟨rfl, rfl⟩)
            go_ret
            exact ⟨rfl, rfl⟩
          all_goals
            have HN : Hid (okD (fun c => !oddP c) (s.data.toList.drop (i + n)) = R) := by
              have := HS.out
              rw [if_neg hn0, show oddP c = false by simp [oddP]; omega] at this
              exact this.symm
            have g1 : 33 ≤ c := by omega
            have g2 : ((c : Int) == 43) = false := by simp; omega
            obtain ⟨j, hj⟩ : ∃ j, i + n = j := ⟨_, rfl⟩
            rw [hj] at HN hws
            have hj2 : (i : Int) + (n : Int) = (j : Int) := by omega
            have hj3 : i < j := by omega
            clear hn0 HS HI hj
          · have g3 : c < 127 := g.2.1
            clear g
            go_wp2_with (go_at_call 80; go_loud (refine (hrun _).mono ?_); rintro e w' ⟨rfl, rfl⟩)
            go_round
            case rel => exact ⟨j, by first | rfl | rw [hj2], hws, HN⟩
            case measure => simp [intOf]; omega
          · go_wp2_with (go_at_call 80; go_loud (refine (hrun _).mono ?_); rintro e w' ⟨rfl, rfl⟩)
            go_round
            case rel => exact ⟨j, by first | rfl | rw [hj2], hws, HN⟩
            case measure => simp [intOf]; omega
      · obtain rfl : i = s.size := by omega
        obtain rfl : R = true := by rw [← HI.out, List.drop_eq_nil_of_le (by cases s; simp [ByteArray.size]), okD_nil]
        go_wp2_with fail
        go_ret
        exact ⟨rfl, rfl⟩
set_option maxRecDepth 100000 in
theorem origin_calls (s : ByteArray) (w : World) (hT : Tabs w) : Calls Tryd.prog 30 #[.string s] w fun e w' => e = .returned (.bool (origB s)) ∧ Below w.heap.size w w' := by
  rcases (show s.size < 1 ∨ 100 < s.size ∨ (1 ≤ s.size ∧ s.size ≤ 100) by omega) with h | h | h
  · rw [show origB s = false by simp [origB]; omega]
    go_enter Tryd.func30, Tryd.ntmps30
    go_wp2_with fail
    go_ret
    exact ⟨rfl, Below.refl _ _⟩
  · rw [show origB s = false by simp [origB]; omega]
    go_enter Tryd.func30, Tryd.ntmps30
    go_wp2_with fail
    go_ret
    exact ⟨rfl, Below.refl _ _⟩
  · have hv : Calls Tryd.prog 78 #[.string s] w _ := Any.utf8_ValidString Tryd.laysValid s w (by omega) hT
    obtain ⟨R, hR⟩ : ∃ R, okD (fun c => !oddP c) s.data.toList = R := ⟨_, rfl⟩
    rw [show origB s = R by simp [origB, h.1, h.2, hR]]
    obtain ⟨V, hV⟩ : ∃ V, Lib.validD s.data.toList = V := ⟨_, rfl⟩
    have hRV : V = false → R = false := fun e => by rw [← hR]; exact okD_valid _ _ _ (Nat.le_refl _) (hV.trans e)
    rw [hV] at hv
    have HR := Lib.hid hR
    have HV := Lib.hid hV
    clear hR hV hT
    have h1 := h.1
    have h2 := h.2
    clear h
    cases V with
    | false =>
      obtain rfl : R = false := hRV rfl
      clear hRV
      go_enter Tryd.func30, Tryd.ntmps30
      go_wp2_with (go_at_call 78; go_loud (refine hv.mono ?_); rintro e w1 ⟨rfl, hb1⟩)
      go_ret
      exact ⟨rfl, hb1⟩
    | true =>
      clear hRV
      go_enter Tryd.func30, Tryd.ntmps30
      go_wp2_with (go_at_call 78; go_loud (refine hv.mono ?_); rintro e w1 ⟨rfl, hb1⟩)
      clear hv
      go_loopw [4] (fun _ wr => ∃ i : Nat, wr = w1.iter s i ∧ i ≤ s.size ∧ Hid (okD (fun c => !oddP c) (s.data.toList.drop i) = R ∧ Lib.validD (s.data.toList.drop i) = true)) (fun _ wr => s.size - wr.iterPos w1.heap.size)
      case atStart => exact ⟨0, rfl, by omega, HR.out, HV.out⟩
      case round =>
        obtain ⟨i, rfl, hi, HI⟩ := hrel
        have hbi : Below w.heap.size w (w1.iter s i) := hb1.alloc hb1.size _
        by_cases hn : i < s.size
        · have hnx : ∀ ty, (Instr.next (.pointer (some ⟨w1.heap.size, 0, none⟩)) true ty).run Tryd.prog (w1.iter s i) = _ := fun ty => run_next_any w1 s i ty hn
          have hst := okD_step (fun c => !oddP c) _ (drop_ne s i hn)
          have hvs := Lib.validD_step _ (drop_ne s i hn)
          have hwd := rn_width s i hn
          have hw1 := Lib.decodeL_width (s.data.toList.drop i)
          have hle := Lib.decodeL_rune (s.data.toList.drop i)
          rw [HI.out.1, Lib.decodeL_drop, List.drop_drop] at hst
          rw [HI.out.2, Lib.decodeL_drop, List.drop_drop] at hvs
          rw [Lib.decodeL_drop] at hw1 hle
          unfold rn at hwd
          obtain ⟨c, n, hcn⟩ : ∃ c n, Utf8.decode s i = (c, n) := ⟨_, _, rfl⟩
          rw [hcn] at hnx hst hvs hwd hw1 hle
          simp only at hnx hst hvs hwd hw1 hle
          by_cases hbad : c = 65533 ∧ n = 1
          · rw [if_pos hbad] at hvs
            cases hvs
          rw [if_neg hbad] at hst hvs hwd
          simp only at hwd
          have hws := hwd.2
          have hodd := odd_calls c hle
          have HB := Lib.hid hbad
          clear hwd hcn hbad
          cases ho : oddP c with
          | true =>
            obtain rfl : R = false := by rw [hst, ho]; rfl
            rw [ho] at hodd
            clear hst hvs ho
            have hbi2 : Below w.heap.size w (w1.iter s (i + n)) := hb1.alloc hb1.size _
            go_wp2_with (go_at_call 79; go_loud (refine (hodd _).mono ?_); rintro e w' ⟨rfl, rfl⟩)
            go_ret
            exact ⟨rfl, hbi2⟩
          | false =>
            rw [ho] at hst hodd
            have HN : Hid (okD (fun c => !oddP c) (s.data.toList.drop (i + n)) = R ∧ Lib.validD (s.data.toList.drop (i + n)) = true) := ⟨hst.symm, hvs.symm⟩
            clear hst hvs ho
            go_wp2_with (go_at_call 79; go_loud (refine (hodd _).mono ?_); rintro e w' ⟨rfl, rfl⟩)
            go_roundw
            case rel => exact ⟨i + n, rfl, hws, HN⟩
            case measure => simp; omega
        · have hnx : ∀ ty, (Instr.next (.pointer (some ⟨w1.heap.size, 0, none⟩)) true ty).run Tryd.prog (w1.iter s i) = _ := fun ty => run_next_end w1 s i ty hn
          obtain rfl : i = s.size := by omega
          obtain rfl : R = true := by rw [← HI.out.1, List.drop_eq_nil_of_le (by cases s; simp [ByteArray.size]), okD_nil]
          go_wp2_with fail
          go_ret
          exact ⟨rfl, hbi⟩
end Go.Proofs.YtfefcfjedlidnaaDoor.Utf
