/- The law OctetBase64: its walk (texts and bytes of at most 2^20). -/
import Derived.Test.YtmiffljcggfcgaaB64V
import Derived.Test.YtmiffljcggfcgaaB64R
import Derived.Test.YtmiffljcggfcgaaB64C
import Derived.Test.YtmiffljcggfcgaaPut
namespace Go.Proofs.Ytmiffljcggfcgaa.SixL
open Go Go.RowKit Go.Proofs.Ytmiffljcggfcgaa.Cop Go.Proofs.Ytmiffljcggfcgaa.Oct Go.Proofs.Ytmiffljcggfcgaa.Hex Go.Proofs.Ytmiffljcggfcgaa.B64 Go.Proofs.Ytmiffljcggfcgaa.Chk
set_option linter.unusedVariables false
set_option linter.unusedSimpArgs false

theorem names1_calls (w : World) : Calls Try.prog 37 #[] w fun e w' => e = .returned (.bool true) ∧ w = w' := by
  go_enter Try.func37, Try.ntmps37
  go_wp2_with fail
  go_ret
  exact ⟨rfl, rfl⟩

set_option maxHeartbeats 1000000 in
set_option maxRecDepth 100000 in
theorem six_law (v : Value) (bs : List UInt8) (s : ByteArray) (w : World) (h : Rd w v bs) (hl : bs.length ≤ 1048576) (hs : s.size ≤ 1048576) :
    Calls Try.prog 11 #[v, .string s] w fun e w' => e = .returned (.bool true) ∧ Below w.heap.size w w' := by
  have hu := fun w => unb_calls s w (by omega)
  have hr := fun w => runb_calls s w (by omega)
  have hsp := fun base v w h => spoil_calls base v (sBytes s.data.toList) w h
  unfold SixRet at hu hr
  generalize sAt s.data.toList = at_ at hu hr
  generalize sErr s.data.toList = er at hu hr
  generalize sBytes s.data.toList = X at hu hr hsp
  go_enter Try.func11, Try.ntmps11
  go_wp2_with fail
  refine (hu w).mono ?_
  rintro e w1 ⟨x, rfl, hx, hb1⟩
  go_wp2_with fail
  refine (hu w1).mono ?_
  rintro e w2 ⟨y, rfl, hy, hb2⟩
  go_wp2_with fail
  refine (hr w2).mono ?_
  rintro e w3 ⟨z, rfl, hz, hb3⟩
  have hx3 := (hx.below hb2).below hb3
  have hy3 := hy.below hb3
  have hB3 : Below w.heap.size w w3 := (hb1.trans (hb2.mono hb1.size)).trans (hb3.mono (by have := hb1.size; have := hb2.size; omega))
  have h3 := h.below hB3
  have hlo : ∀ k, x.ownBlock = some k → k < w1.heap.size := fun k hk => (World.ownsRow.lt hx k hk).2
  go_wp2_with (first | ((with_reducible refine gate_dst (N := 33) rfl ?_); go_loud (refine wp_strB rfl _ rfl hx3.rd rfl ?_)) | ((with_reducible refine gate_dst (N := 35) rfl ?_); go_loud (refine wp_strB rfl _ rfl hz.rd rfl ?_)) | ((with_reducible refine gate_dst (N := 36) rfl ?_); go_loud (refine wp_neq_str rfl _ _ _ _ rfl rfl rfl (b := false) (decide_eq_true rfl) ?_)) | (go_at_call 45; go_loud (refine (base64_calls v bs w3 h3 hl).mono ?_); rintro e w4 ⟨rfl, hb4⟩; have h4 := h3.below hb4) | (go_at_call 46; go_loud (refine (rb64_calls v bs w4 h4 hl).mono ?_); rintro e w5 ⟨rfl, hb5⟩) | ((with_reducible refine gate_dst (N := 52) rfl ?_); go_loud (refine wp_neq_str rfl _ _ _ _ rfl rfl rfl (b := false) (decide_eq_true rfl) ?_)))
  have hx5 := (hx3.below hb4).below hb5
  have hy5 := (hy3.below hb4).below hb5
  have hz5 := (hz.below hb4).below hb5
  have hB5 : Below w.heap.size w w5 := (hB3.trans (hb4.mono hB3.size)).trans (hb5.mono (by have := hB3.size; have := hb4.size; omega))
  have hxlo : ∀ k, x.ownBlock = some k → w.heap.size ≤ k := fun k hk => (World.ownsRow.lt hx5 k hk).1
  have hne : ∀ u : Value, u.ownBlock = none ∨ (∀ k, u.ownBlock = some k → w1.heap.size ≤ k) → (u.ownBlock = none ∨ u.ownBlock ≠ x.ownBlock) := by
    intro u hu
    cases hub : u.ownBlock with
    | none => exact .inl rfl
    | some k =>
      refine .inr (fun e => ?_)
      rcases hu with hu | hu
      · rw [hub] at hu; cases hu
      · have h1 := hu k hub
        have h2 := hlo k e.symm
        omega
  refine (hsp w.heap.size x w5 hx5).mono ?_
  rintro e w6 ⟨rfl, hx6, hg6⟩
  have hy6 := hy5.kept hg6 (hne y (.inr fun k hk => (World.ownsRow.lt hy5 k hk).1))
  have hz6 := hz5.kept hg6 (hne z (.inr fun k hk => by have := (World.ownsRow.lt hz5 k hk).1; have := hb2.size; omega))
  have hB6 : Below w.heap.size w w6 := hB5.grown hg6 hB5.size (fun k hk => hxlo k hk)
  go_wp2_with (first | ((with_reducible refine gate_dst (N := 57) rfl ?_); go_loud (refine wp_strB rfl _ rfl hy6.rd rfl ?_)) | ((with_reducible refine gate_dst (N := 59) rfl ?_); go_loud (refine wp_strB rfl _ rfl hz6.rd rfl ?_)) | ((with_reducible refine gate_dst (N := 60) rfl ?_); go_loud (refine wp_eq_str rfl _ _ _ _ rfl rfl rfl (decide_eq_true rfl) ?_)) | (go_at_call 37; refine (names1_calls _).mono ?_; rintro e w' ⟨rfl, rfl⟩))
  go_ret
  exact ⟨rfl, hB6⟩
end Go.Proofs.Ytmiffljcggfcgaa.SixL
