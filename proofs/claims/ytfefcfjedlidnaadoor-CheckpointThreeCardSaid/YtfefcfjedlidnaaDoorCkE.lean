/- tree.Empty and the reference's: the digest of nothing. -/
import Derived.Test.YtfefcfjedlidnaaDoorShaA
import Derived.Test.YtfefcfjedlidnaaDoorShaB
namespace Go.Proofs.YtfefcfjedlidnaaDoor.Sha
open Go Go.RowKit Go.Proofs.YtfefcfjedlidnaaDoor.Cop Go.Proofs.YtfefcfjedlidnaaDoor.Oct
set_option linter.unusedVariables false
set_option linter.unusedSimpArgs false
set_option maxRecDepth 100000 in
theorem empty_calls (w : World) (hK : Kon w) : Calls Tryd.prog 101 #[] w fun e w' => e = .returned (dg (sha [])) ∧ Below w.heap.size w w' := by
  have hsl := sha_len []
  have hs : ∀ w, Kon w → Calls Tryd.prog 82 #[.slice none 0 0] w fun e w' => e = .returned (dg (sha [])) ∧ Below w.heap.size w w' := fun w hK => hsum_calls (.slice none 0 0) [] w (Row.nil w) (Inn.nil w) (by simp) hK
  obtain ⟨out, hout⟩ : ∃ o, sha [] = o := ⟨_, rfl⟩
  rw [hout] at hsl hs ⊢
  have HSL := Lib.hid hsl
  have HS := Lib.hid hs
  have HK := Lib.hid hK
  clear hsl hs hK hout
  go_enter Tryd.func101, Tryd.ntmps101
  go_wp2_with (((with_reducible refine gate_dst (N := 0) rfl ?_); go_loud (refine wp_alloc rfl _ rfl zeroD ?_); intro w1 hk1 hb1 hz1))
  refine (HS.out w1 (HK.out.below hb1)).mono ?_
  rintro e w2 ⟨rfl, hb2⟩
  have z2 := hb2.size
  have hk2 := hk1.below hb2
  go_wp2_with (((with_reducible refine gate_store (t := 28) (p := 0) rfl ?_); go_loud (refine wp_store_blk rfl 28 _ _ rfl rfl sizeD rfl hk2 (dz_cells) (v := dg out) rfl (dg_size HSL.out) (dg_one _) ?_); intro w3 hk3 hg3))
  have hk4 : Blk w3 w.heap.size 28 (bcs out) := by simpa [Value.cells] using hk3
  have hb3 : Below w.heap.size w w3 := (hb1.trans (hb2.mono (by omega))).grown hg3 (by omega) (fun r e => by injection e with e; omega)
  clear hk3
  refine bodyPost_ret (results_blk1 (cs := bcs out) rfl aggD sizeD _ rfl hk4 (by rw [bcs_length]; exact HSL.out)) rfl ?_
  exact ⟨rfl, hb3⟩
set_option maxRecDepth 100000 in
theorem rempty_calls (w : World) : Calls Tryd.prog 73 #[] w fun e w' => e = .returned (dg (sha [])) ∧ Below w.heap.size w w' := by
  have hsl := sha_len []
  have hs : ∀ w, Calls Tryd.prog 85 #[.slice none 0 0] w fun e w' => e = .returned (dg (sha [])) ∧ Below w.heap.size w w' := fun w => rsum_calls (.slice none 0 0) [] w (Row.nil w) (by simp)
  obtain ⟨out, hout⟩ : ∃ o, sha [] = o := ⟨_, rfl⟩
  rw [hout] at hsl hs ⊢
  have HSL := Lib.hid hsl
  have HS := Lib.hid hs
  clear hsl hs hout
  go_enter Tryd.func73, Tryd.ntmps73
  go_wp2_with (((with_reducible refine gate_dst (N := 0) rfl ?_); go_loud (refine wp_alloc rfl _ rfl zeroD ?_); intro w1 hk1 hb1 hz1))
  refine (HS.out w1).mono ?_
  rintro e w2 ⟨rfl, hb2⟩
  have z2 := hb2.size
  have hk2 := hk1.below hb2
  go_wp2_with (((with_reducible refine gate_store (t := 28) (p := 0) rfl ?_); go_loud (refine wp_store_blk rfl 28 _ _ rfl rfl sizeD rfl hk2 (dz_cells) (v := dg out) rfl (dg_size HSL.out) (dg_one _) ?_); intro w3 hk3 hg3))
  have hk4 : Blk w3 w.heap.size 28 (bcs out) := by simpa [Value.cells] using hk3
  have hb3 : Below w.heap.size w w3 := (hb1.trans (hb2.mono (by omega))).grown hg3 (by omega) (fun r e => by injection e with e; omega)
  clear hk3
  refine bodyPost_ret (results_blk1 (cs := bcs out) rfl aggD sizeD _ rfl hk4 (by rw [bcs_length]; exact HSL.out)) rfl ?_
  exact ⟨rfl, hb3⟩
end Go.Proofs.YtfefcfjedlidnaaDoor.Sha
