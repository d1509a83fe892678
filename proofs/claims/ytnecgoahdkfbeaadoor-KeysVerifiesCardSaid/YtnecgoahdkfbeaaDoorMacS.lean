/- A growing digest, told by the bytes that it has taken. -/
import Derived.Test.YtnecgoahdkfbeaaDoorMacT
namespace Go.Proofs.YtnecgoahdkfbeaaDoor.Sha
open Go Go.RowKit Go.Proofs.YtnecgoahdkfbeaaDoor.Cop Go.Proofs.YtnecgoahdkfbeaaDoor.Oct
set_option linter.unusedVariables false
set_option linter.unusedSimpArgs false
theorem own_still {B : Nat} {w w' : World} {v : Value} {xs : List UInt8} (h : Own B w v xs) (hs : ∀ k, v.ownBlock = some k → w'.heap[k]? = w.heap[k]?) : Own B w' v xs := by
  obtain ⟨hl, h⟩ := h
  refine ⟨hl, ?_⟩
  rcases h with h | ⟨g, cap, cur, rfl, hb, hg, h⟩
  · exact .inl h
  · exact .inr ⟨g, cap, cur, rfl, hb, (hs g rfl).trans hg, h⟩
/-- The blocks from B on and ahead of T may have changed, no others. -/
structure GrR (B T : Nat) (w W : World) : Prop where
  os : W.os = w.os
  tape : W.tape = w.tape
  output : W.output = w.output
  size : w.heap.size ≤ W.heap.size
  block : ∀ k, k < w.heap.size → (k < B ∨ T ≤ k) → W.heap[k]? = w.heap[k]?
theorem GrR.below {B T : Nat} {w W : World} (h : GrR B T w W) (hB : B ≤ w.heap.size) : Below B w W := ⟨h.os, h.tape, h.output, h.size, fun k hk => h.block k (by omega) (.inl hk)⟩
theorem GrR.blk {B T : Nat} {w W : World} (h : GrR B T w W) {g : Nat} {t : TypeId} {cs : List Value} (hk : Blk w g t cs) (hg : g < B ∨ T ≤ g) : Blk W g t cs := (h.block g hk.lt hg).trans hk
abbrev KG : Nat := 7
/-- What a state at g, whose blocks lie from B on and ahead of T, has taken. -/
def HS (B T : Nat) (w : World) (g : Nat) (m : List UInt8) : Prop := ∃ v, Blk w g 283 (stc (over h0 m) (m.length : Int) v) ∧ Own B w v (tail m) ∧ B ≤ g ∧ g < T ∧ v.ownBlock ≠ some g ∧ ∀ k, v.ownBlock = some k → k < T
theorem HS.below {B T : Nat} {w w' : World} {g : Nat} {m : List UInt8} (h : HS B T w g m) (hb : Below w.heap.size w w') : HS B T w' g m := by
  obtain ⟨v, h1, h2, h3⟩ := h
  exact ⟨v, h1.below hb, h2.below hb, h3⟩
theorem HS.grR {B T B' T' : Nat} {w w' : World} {g : Nat} {m : List UInt8} (h : HS B T w g m) (hb : GrR B' T' w w') (hT : T' ≤ B) : HS B T w' g m := by
  obtain ⟨v, h1, h2, h3, h4⟩ := h
  exact ⟨v, hb.blk h1 (.inr (by omega)), own_still h2 (fun k e => hb.block k (World.ownsRow.lt h2 k e).2 (.inr (by have := (World.ownsRow.lt h2 k e).1; omega))), h3, h4⟩
theorem HS.lt {B T : Nat} {w : World} {g : Nat} {m : List UInt8} (h : HS B T w g m) : g < w.heap.size := by obtain ⟨v, h1, _⟩ := h; exact h1.lt
theorem over_len (m : List UInt8) : (over h0 m).length = 8 := (over_wd _ _ _ (Nat.le_refl _) h0_wd).1
theorem tail_cat {m : List UInt8} (ht : tail m = []) (b : List UInt8) : tail (m ++ b) = tail b := by
  have h1 := tail_len m
  rw [ht] at h1
  have h2 : m.length % 64 = 0 := h1.symm
  unfold tail
  rw [List.length_append, List.drop_append, List.drop_of_length_le (by omega), List.nil_append]
  congr 1
  omega
theorem hnew_calls (w : World) : Calls Tryd.prog 186 #[] w fun e w' => ∃ g, e = .returned (.pointer (some ⟨g, 0, none⟩)) ∧ HS w.heap.size w'.heap.size w' g [] ∧ Below w.heap.size w w' := by
  refine (new_calls w).mono ?_
  rintro e w' ⟨g, h1, h2, h3, h4⟩
  exact ⟨g, h1, ⟨_, h2, Own.nil _ _, h3, h2.lt, (by intro e; cases e), (by intro k e; cases e)⟩, h4⟩
theorem hwrite_calls (B T g : Nat) (m : List UInt8) (vb : Value) (b : List UInt8) (w : World) (h : HS B T w g m) (ht : tail m = []) (hb : Rd w vb b) (hap : ∀ ad n c, vb = .slice (some ad) n c → ad.block < B) (hbl : b.length ≤ 140737488355200) (hm : m.length ≤ 140737488355328) (hK : Kon w) (h5 : 7 < B) :
    Calls Tryd.prog 187 #[.pointer (some ⟨g, 0, none⟩), vb] w fun e w' => e = .returned (.int .i64 0) ∧ HS B w'.heap.size w' g (m ++ b) ∧ GrR B T w w' := by
  obtain ⟨v, h1, h2, h3, h4, h6, h7⟩ := h
  rw [ht] at h2
  have ho := over_app b m.length h0 m (Nat.le_refl _)
  rw [ht, List.nil_append] at ho
  have hlen : (over (over h0 m) b).length = 8 := by rw [← ho]; exact over_len _
  refine (write1_calls B g (over h0 m) m.length v vb b w (over_len m) h1 h2 hb hbl h3 hK h5 h6 (fun ad n c e => by have := hap ad n c e; omega) hm hlen).mono ?_
  rintro e w' ⟨v1, rfl, k1, k2, k3, k4, k5⟩
  refine ⟨rfl, ⟨v1, by rw [ho, List.length_append]; exact k1, by rw [tail_cat ht]; exact k2, h3, k1.lt, k4, fun k e => (World.ownsRow.lt k2 k e).2⟩, ⟨k5.os, k5.tape, k5.output, k5.size, fun k hk hr => k5.block k hk ?_ ?_⟩⟩
  · omega
  · intro e
    have e1 := (World.ownsRow.lt h2 k e).1
    have e2 := h7 k e
    omega
theorem hclone_calls (B T g : Nat) (m : List UInt8) (w : World) (h : HS B T w g m) :
    Calls Tryd.prog 226 #[.pointer (some ⟨g, 0, none⟩)] w fun e w' => ∃ g', e = .returned (.pointer (some ⟨g', 0, none⟩)) ∧ HS w.heap.size w'.heap.size w' g' m ∧ Below w.heap.size w w' := by
  obtain ⟨v, h1, h2, h3, h4, h6, h7⟩ := h
  refine (sclone_calls g (over h0 m) (m.length : Int) v (tail m) w (over_len m) h1 h2.rd (by rw [tail_len]; omega)).mono ?_
  rintro e w' ⟨g', v', h8, h9, h10, h11, h12⟩
  exact ⟨g', h8, ⟨v', h9, h10, h11, h9.lt, own_apart h10 h9, fun k e => (World.ownsRow.lt h10 k e).2⟩, h12⟩
theorem hsm_calls (B T g : Nat) (m : List UInt8) (w : World) (h : HS B T w g m) (hm : m.length ≤ 140737488355328) (hK : Kon w) :
    Calls Tryd.prog 188 #[.pointer (some ⟨g, 0, none⟩)] w fun e w' => e = .returned (dg (sha m)) ∧ Below w.heap.size w w' := by
  obtain ⟨v, h1, h2, h3, h4, h6, h7⟩ := h
  have := ssum_calls g (over h0 m) m.length v (tail m) w (over_wd _ _ _ (Nat.le_refl _) h0_wd) h1 h2.rd (by rw [tail_len]; omega) hm hK
  rw [← over_app (padB m.length) m.length h0 m (Nat.le_refl _)] at this
  exact this
end Go.Proofs.YtnecgoahdkfbeaaDoor.Sha
