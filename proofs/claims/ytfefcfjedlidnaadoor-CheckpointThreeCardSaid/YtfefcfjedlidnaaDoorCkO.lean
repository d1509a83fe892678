/- The law CheckpointOrders. -/
import Derived.Deep.RegionHeld3
import Derived.Test.YtfefcfjedlidnaaDoorCkN
namespace Go.Proofs.YtfefcfjedlidnaaDoor.Sha
open Go Go.RowKit Go.Proofs Go.Proofs.YtfefcfjedlidnaaDoor.Cop Go.Proofs.YtfefcfjedlidnaaDoor.Oct Go.Proofs.YtfefcfjedlidnaaDoor.Utf
set_option linter.unusedVariables false
set_option linter.unusedSimpArgs false
/-- What the law's region leaves as it is. -/
def Keep (g1 g2 : Nat) (w : World) (L L' : List Value) (wr : World) : Prop :=
  isAt wr (.pointer (some ⟨g1, 0, none⟩)) 34 = true ∧ atV wr (.pointer (some ⟨g1, 0, none⟩)) 34 = L ∧ isAt wr (.pointer (some ⟨g2, 0, none⟩)) 34 = true ∧ atV wr (.pointer (some ⟨g2, 0, none⟩)) 34 = L' ∧
    (Below w.heap.size w wr ∧ Blk wr g1 51 L ∧ Blk wr g2 51 L' ∧ w.heap.size ≤ wr.heap.size ∧ L.length = 34 ∧ L'.length = 34)
theorem Keep.mk {g1 g2 : Nat} {w : World} {L L' : List Value} {wr : World} (h1 : Below w.heap.size w wr) (h2 : Blk wr g1 51 L) (h3 : Blk wr g2 51 L') (h4 : w.heap.size ≤ wr.heap.size) (h5 : L.length = 34) (h6 : L'.length = 34) : Keep g1 g2 w L L' wr :=
  ⟨isAt_of (fun j u hu => by rw [addr_add, h2.cell]; exact hu) h5, atV_of (fun j u hu => by rw [addr_add, h2.cell]; exact hu) h5, isAt_of (fun j u hu => by rw [addr_add, h3.cell]; exact hu) h6, atV_of (fun j u hu => by rw [addr_add, h3.cell]; exact hu) h6, h1, h2, h3, h4, h5, h6⟩
theorem Keep.below {g1 g2 : Nat} {w wr wr' : World} {L L' : List Value} (h : Keep g1 g2 w L L' wr) (hb : Below wr.heap.size wr wr') : Keep g1 g2 w L L' wr' := by
  obtain ⟨-, -, -, -, h1, h2, h3, h4, h5, h6⟩ := h
  exact .mk (h1.trans (hb.mono h4)) (h2.below hb) (h3.below hb) (Nat.le_trans h4 hb.size) h5 h6
theorem Keep.fin {g1 g2 : Nat} {w wr : World} {L L' : List Value} (h : Keep g1 g2 w L L' wr) : Below w.heap.size w wr := h.2.2.2.2.1
theorem Keep.drew {g1 g2 : Nat} {w wr : World} {L L' : List Value} (h : Keep g1 g2 w L L' wr) : Keep g1 g2 w L L' wr.drew := by
  obtain ⟨-, -, -, -, h1, h2, h3, h4, h5, h6⟩ := h
  exact .mk h1.drew h2 h3 h4 h5 h6
theorem ldCk (ρ : Operand → Value) (x : Operand) (dst : Option Tmp) (ty : TypeId) (pos : String) (after : Array Edge) (guard : Option (Nat × Bool)) (w : World) (h : isAt w (ρ x) 34 = true) : (execOp ρ { dst, op := .load 51 x, type := ty, pos, after, guard }).run Tryd.prog w = .ok (.value (.agg (atV w (ρ x) 34).toArray)) w := run_load_atV aggCk sizeCk ρ x dst ty pos after guard w h
attribute [local go_sem ↓] ldCk
theorem beq_self_b (b : Bool) : (b == b) = true := by cases b <;> rfl
attribute [local go_sem] beq_self_b
set_option maxRecDepth 100000 in
set_option maxHeartbeats 4000000 in
theorem law_calls (s : ByteArray) (n : Int) (d : List UInt8) (s' : ByteArray) (n' : Int) (d' : List UInt8) (hd : d.length = 32) (hd' : d'.length = 32) (w : World) (hT : Tabs w) (hK : Kon w) : Calls Tryd.prog 5 #[ckV s n d, ckV s' n' d'] w fun e w' => e = .returned (.bool true) ∧ Below w.heap.size w w' := by
  have hl := ck_len s n d hd
  have hl' := ck_len s' n' d' hd'
  obtain ⟨A, hA⟩ : ∃ b, newB s n d s' n' d' = b := ⟨_, rfl⟩
  obtain ⟨B, hB⟩ : ∃ b, splB s n d s' n' d' = b := ⟨_, rfl⟩
  obtain ⟨C, hC⟩ : ∃ b, mayB s n d = b := ⟨_, rfl⟩
  have h1 : ∀ w', Below w.heap.size w w' → Calls Tryd.prog 23 #[ckV s n d, ckV s' n' d'] w' fun e w'' => e = .returned (.bool A) ∧ Below w'.heap.size w' w'' := fun w' hb => by rw [← hA]; exact newer_calls s n d s' n' d' hd hd' w' (Utf8Tabs_below hT hb) (hK.below hb)
  have h2 : ∀ w', Below w.heap.size w w' → Calls Tryd.prog 24 #[ckV s n d, ckV s' n' d'] w' fun e w'' => e = .returned (.bool A) ∧ Below w'.heap.size w' w'' := fun w' hb => by rw [← hA]; exact rnewer_calls s n d s' n' d' hd hd' w'
  have h3 : ∀ w', Below w.heap.size w w' → Calls Tryd.prog 25 #[ckV s n d, ckV s' n' d'] w' fun e w'' => e = .returned (.bool B) ∧ Below w'.heap.size w' w'' := fun w' hb => by rw [← hB]; exact split_calls s n d s' n' d' hd hd' w' (Utf8Tabs_below hT hb) (hK.below hb)
  have h4 : ∀ w', Below w.heap.size w w' → Calls Tryd.prog 26 #[ckV s n d, ckV s' n' d'] w' fun e w'' => e = .returned (.bool B) ∧ Below w'.heap.size w' w'' := fun w' hb => by rw [← hB]; exact rsplit_calls s n d s' n' d' hd hd' w'
  have h5 : ∀ w', Below w.heap.size w w' → Calls Tryd.prog 23 #[ckV s n d, ckV s n d] w' fun e w'' => e = .returned (.bool C) ∧ Below w'.heap.size w' w'' := fun w' hb => by rw [← hC, ← newB_self]; exact newer_calls s n d s n d hd hd w' (Utf8Tabs_below hT hb) (hK.below hb)
  have h6 : ∀ w', Below w.heap.size w w' → Calls Tryd.prog 27 #[ckV s n d] w' fun e w'' => e = .returned (.bool C) ∧ Below w'.heap.size w' w'' := fun w' hb => by rw [← hC]; exact rmay_calls s n d hd w'
  have h7 : ∀ w', Below w.heap.size w w' → Calls Tryd.prog 25 #[ckV s n d, ckV s n d] w' fun e w'' => e = .returned (.bool false) ∧ Below w'.heap.size w' w'' := fun w' hb => by rw [← splB_self s n d]; exact split_calls s n d s n d hd hd w' (Utf8Tabs_below hT hb) (hK.below hb)
  unfold ckV at h1 h2 h3 h4 h5 h6 h7
  have G1 := fun g1 g2 w' (h : Keep g1 g2 w (ckL s n d) (ckL s' n' d') w') => (h1 w' h.fin).mono (R' := fun e w'' => e = .returned (.bool A) ∧ Keep g1 g2 w (ckL s n d) (ckL s' n' d') w'') (by rintro e w'' ⟨rfl, hb⟩; exact ⟨rfl, h.below hb⟩)
  have H1 := Lib.hid G1
  clear G1
  have G2 := fun g1 g2 w' (h : Keep g1 g2 w (ckL s n d) (ckL s' n' d') w') => (h2 w' h.fin).mono (R' := fun e w'' => e = .returned (.bool A) ∧ Keep g1 g2 w (ckL s n d) (ckL s' n' d') w'') (by rintro e w'' ⟨rfl, hb⟩; exact ⟨rfl, h.below hb⟩)
  have H2 := Lib.hid G2
  clear G2
  have G3 := fun g1 g2 w' (h : Keep g1 g2 w (ckL s n d) (ckL s' n' d') w') => (h3 w' h.fin).mono (R' := fun e w'' => e = .returned (.bool B) ∧ Keep g1 g2 w (ckL s n d) (ckL s' n' d') w'') (by rintro e w'' ⟨rfl, hb⟩; exact ⟨rfl, h.below hb⟩)
  have H3 := Lib.hid G3
  clear G3
  have G4 := fun g1 g2 w' (h : Keep g1 g2 w (ckL s n d) (ckL s' n' d') w') => (h4 w' h.fin).mono (R' := fun e w'' => e = .returned (.bool B) ∧ Keep g1 g2 w (ckL s n d) (ckL s' n' d') w'') (by rintro e w'' ⟨rfl, hb⟩; exact ⟨rfl, h.below hb⟩)
  have H4 := Lib.hid G4
  clear G4
  have G5 := fun g1 g2 w' (h : Keep g1 g2 w (ckL s n d) (ckL s' n' d') w') => (h5 w' h.fin).mono (R' := fun e w'' => e = .returned (.bool C) ∧ Keep g1 g2 w (ckL s n d) (ckL s' n' d') w'') (by rintro e w'' ⟨rfl, hb⟩; exact ⟨rfl, h.below hb⟩)
  have H5 := Lib.hid G5
  clear G5
  have G6 := fun g1 g2 w' (h : Keep g1 g2 w (ckL s n d) (ckL s' n' d') w') => (h6 w' h.fin).mono (R' := fun e w'' => e = .returned (.bool C) ∧ Keep g1 g2 w (ckL s n d) (ckL s' n' d') w'') (by rintro e w'' ⟨rfl, hb⟩; exact ⟨rfl, h.below hb⟩)
  have H6 := Lib.hid G6
  clear G6
  have G7 := fun g1 g2 w' (h : Keep g1 g2 w (ckL s n d) (ckL s' n' d') w') => (h7 w' h.fin).mono (R' := fun e w'' => e = .returned (.bool false) ∧ Keep g1 g2 w (ckL s n d) (ckL s' n' d') w'') (by rintro e w'' ⟨rfl, hb⟩; exact ⟨rfl, h.below hb⟩)
  have H7 := Lib.hid G7
  clear G7
  have HL := Lib.hid hl
  have HL' := Lib.hid hl'
  clear h1 h2 h3 h4 h5 h6 h7 hl hl' hT hK hd hd' hA hB hC
  go_enter Tryd.func5, Tryd.ntmps5
  go_wp2_with (first | (((with_reducible refine gate_dst (N := 2) rfl ?_); go_loud (refine wp_box rfl _ _ rfl (v := ckV s n d) rfl ?_); intro w1 hk1 hb1 hz1); rw [ck_cells] at hk1) | (((with_reducible refine gate_dst (N := 3) rfl ?_); go_loud (refine wp_box rfl _ _ rfl (v := ckV s' n' d') rfl ?_); intro w2 hk2 hb2 hz2); rw [ck_cells] at hk2))
  have HK := Lib.hid (Keep.mk (hb1.trans (hb2.mono hb1.size)) (hk1.below hb2) hk2 (by have := hb1.size; have := hb2.size; omega) HL.out HL'.out)
  clear hk1 hk2 hb1 hb2 hz1 hz2
  go_region_held3 (fun wr => isAt wr (.pointer (some ⟨w.heap.size, 0, none⟩)) 34 = true ∧ atV wr (.pointer (some ⟨w.heap.size, 0, none⟩)) 34 = ckL s n d ∧ isAt wr (.pointer (some ⟨w1.heap.size, 0, none⟩)) 34 = true ∧ atV wr (.pointer (some ⟨w1.heap.size, 0, none⟩)) 34 = ckL s' n' d' ∧ (Below w.heap.size w wr ∧ Blk wr w.heap.size 51 (ckL s n d) ∧ Blk wr w1.heap.size 51 (ckL s' n' d') ∧ w.heap.size ≤ wr.heap.size ∧ (ckL s n d).length = 34 ∧ (ckL s' n' d').length = 34))
    (first | exact hN | exact HK.out.drew)
    (first
      | (go_at_call 23; ((first | ((with_reducible refine (H1.out w.heap.size w1.heap.size _ ?k1).mono ?_); (case k1 => assumption)) | ((with_reducible refine (H5.out w.heap.size w1.heap.size _ ?k2).mono ?_); (case k2 => assumption))); rintro e wN ⟨rfl, hN⟩))
      | (go_at_call 24; ((with_reducible refine (H2.out w.heap.size w1.heap.size _ ?k3).mono ?_); (case k3 => assumption)); rintro e wN ⟨rfl, hN⟩)
      | (go_at_call 25; ((first | ((with_reducible refine (H3.out w.heap.size w1.heap.size _ ?k4).mono ?_); (case k4 => assumption)) | ((with_reducible refine (H7.out w.heap.size w1.heap.size _ ?k5).mono ?_); (case k5 => assumption))); rintro e wN ⟨rfl, hN⟩))
      | (go_at_call 26; ((with_reducible refine (H4.out w.heap.size w1.heap.size _ ?k6).mono ?_); (case k6 => assumption)); rintro e wN ⟨rfl, hN⟩)
      | (go_at_call 27; ((with_reducible refine (H6.out w.heap.size w1.heap.size _ ?k7).mono ?_); (case k7 => assumption)); rintro e wN ⟨rfl, hN⟩))
  all_goals
    go_wp2_with fail
    go_ret
    exact ⟨rfl, Keep.fin (by assumption)⟩
end Go.Proofs.YtfefcfjedlidnaaDoor.Sha
