/- The law NoteDigests: the reference's Digest, the law's walk. -/
import Derived.Test.YtfefcfjedlidnaaDoorNotD
import Derived.Test.YtfefcfjedlidnaaDoorShaB
namespace Go.Proofs.YtfefcfjedlidnaaDoor.Sha
open Go Go.RowKit Go.Proofs.YtfefcfjedlidnaaDoor.Cop Go.Proofs.YtfefcfjedlidnaaDoor.Oct
set_option linter.unusedVariables false
set_option linter.unusedSimpArgs false
set_option maxRecDepth 100000 in
set_option maxHeartbeats 1000000 in
theorem rndig_calls (text name : ByteArray) (key : Nat) (w : World) (ht : text.size ≤ 1048576) (hnm : name.size ≤ 1048576) (hk : key < 4294967296) :
    Calls Tryd.prog 34 #[.string text, .string name, .int .u32 (key : Int)] w fun e w' => e = .returned (dg (sha (signB text name key))) ∧ Below w.heap.size w w' := by
  have hsl := sha_len (signB text name key)
  have hmsg : (([4] ++ be (name.size % 65536) 2) ++ name.data.toList ++ be key 4) ++ text.data.toList = signB text name key := rfl
  have hml := signB_len text name key
  have hsum : ∀ v w, Rd w v (signB text name key) → Calls Tryd.prog 85 #[v] w fun e w' => e = .returned (dg (sha (signB text name key))) ∧ Below w.heap.size w w' := fun v w h1 => rsum_calls v _ w h1 (by omega)
  obtain ⟨msg, hm⟩ : ∃ m, signB text name key = m := ⟨_, rfl⟩
  rw [hm] at hsl hmsg hml hsum ⊢
  obtain ⟨out, hout⟩ : ∃ o, sha msg = o := ⟨_, rfl⟩
  rw [hout] at hsl hsum ⊢
  have HSL := Lib.hid hsl
  have HMSG := Lib.hid hmsg
  have HSUM := Lib.hid hsum
  have hnl := str_len name
  have HNL := Lib.hid hnl
  have e16 : IntKind.u16.wrap (name.size : Int) = ((name.size % 65536 : Nat) : Int) := by rw [IntKind.wrap_u16]; omega
  have e16' : (name.size : Int) % 65536 = ((name.size % 65536 : Nat) : Int) := by omega
  obtain ⟨n16, hn16⟩ : ∃ n, name.size % 65536 = n := ⟨_, rfl⟩
  have hn16b : n16 < 65536 := by omega
  rw [hn16] at e16 e16'
  have HN16 := Lib.hid hn16
  clear hsl hmsg hml hm hout hsum hnl hn16
  have hnum1 : ∀ w, Calls Tryd.prog 84 #[.int .u64 (n16 : Int), .int .i64 2] w (fun e w' => ∃ v, e = .returned v ∧ Own w.heap.size w' v (be n16 2) ∧ Below w.heap.size w w') := fun w => number_calls n16 2 w (by omega) (by omega)
  have hnum2 : ∀ w, Calls Tryd.prog 84 #[.int .u64 (key : Int), .int .i64 4] w (fun e w' => ∃ v, e = .returned v ∧ Own w.heap.size w' v (be key 4) ∧ Below w.heap.size w w') := fun w => number_calls key 4 w (by omega) (by omega)
  have HNUM1 := Lib.hid hnum1
  have HNUM2 := Lib.hid hnum2
  clear hnum1 hnum2
  go_enter Tryd.func34, Tryd.ntmps34
  go_wp2_with (((with_reducible refine gate_dst (N := 6) rfl ?_); go_loud (refine wp_alloc rfl _ rfl zeroD ?_); intro w1 hk1 hb1 hz1))
  have hown1 : Own w1.heap.size (w1.alloc (.cells #[.int .u8 4] 5)) (.slice (some ⟨w1.heap.size, 0, none⟩) 1 1) [4] := own_of_blk (Blk.new w1 (bcs [4]) 5) (Nat.le_refl _) rfl (by unfold maxLen; omega)
  have HK1 := Lib.hid hk1
  clear hk1
  have hb1a : Below w.heap.size w (w1.alloc (.cells #[.int .u8 4] 5)) := hb1.alloc hb1.size _
  go_wp2_with (first | (go_at_call 84; (with_reducible refine (HNUM1.out _).mono ?_); rintro e w2 ⟨vn, rfl, hn2, hb2⟩; have hown1b := Own.below hown1 hb2) | (((with_reducible refine gate_dst (N := 14) rfl ?_); go_loud (refine wp_appB rfl (.tmp 8) (.tmp 13) rfl hown1b rfl hn2.rd rfl (by simp only [be_length, List.length_cons, List.length_nil]; omega) (by have := hb2.size; simp at this; omega) ?_); intro v2 w2b hown2 hgrow2)) | ((with_reducible refine gate_dst (N := 17) rfl ?_); go_loud (refine wp_appS rfl _ _ rfl hown2 rfl (y := name) rfl (by simp only [List.length_append, be_length, List.length_cons, List.length_nil]; omega) (by have q1 := hgrow2.size; have q2 := hb2.size; simp only [World.size_alloc] at q2; omega) ?_); intro v3 w3 hown3 hgrow3))
  have z2 := hb2.size
  simp only [World.size_alloc] at z2
  have z2b := hgrow2.size
  have hbel2 : Below w.heap.size w w2b := (hb1a.trans (hb2.mono (by simp; omega))).grown hgrow2 (by omega) (fun r e => by have := (World.ownsRow.lt hown1b r e).1; omega)
  have hr2 : Blk w2b w.heap.size 28 (dg dz).cells.toList := (Blk.below (w := w1.alloc (.cells #[.int .u8 4] 5)) (HK1.out.below ((Below.refl _ _).alloc (Nat.le_refl _) _)) hb2).grown hgrow2 (fun e => by have := (World.ownsRow.lt hown1b w.heap.size e.symm).1; omega)
  clear hown1 hn2
  have hbel3 : Below w.heap.size w w3 := hbel2.grown hgrow3 (by omega) (fun r e => by have := (World.ownsRow.lt hown2 r e).1; omega)
  have z3 := hgrow3.size
  have hr3 := hr2.grown hgrow3 (fun e => by have := (World.ownsRow.lt hown2 w.heap.size e.symm).1; omega)
  have hl3 : (([4] ++ be n16 2) ++ name.data.toList).length = 3 + name.size := by simp only [List.length_append, be_length, HNL.out, List.length_cons, List.length_nil]
  have HL3 := Lib.hid hl3
  clear hl3
  go_wp2_with (first | (go_at_call 84; (with_reducible refine (HNUM2.out _).mono ?_); rintro e w4 ⟨vn4, rfl, hn4, hb4⟩; have hown3b := Own.below hown3 hb4) | (((with_reducible refine gate_dst (N := 22) rfl ?_); go_loud (refine wp_appB rfl (.tmp 18) (.tmp 21) rfl hown3b rfl hn4.rd rfl (by rw [HL3.out, be_length]; omega) (by have := hb4.size; omega) ?_); intro v4 w4b hown4 hgrow4)) | ((with_reducible refine gate_dst (N := 25) rfl ?_); go_loud (refine wp_appS rfl _ _ rfl hown4 rfl (y := text) rfl (by rw [List.length_append, HL3.out, be_length]; omega) (by have q1 := hgrow4.size; have q2 := hb4.size; omega) ?_); intro v5 w5 hown5 hgrow5))
  have z4 := hb4.size
  have z4b := hgrow4.size
  have hr4 := (hr3.below hb4).grown hgrow4 (fun e => by have := (World.ownsRow.lt hown3b w.heap.size e.symm).1; omega)
  have hbel4 : Below w.heap.size w w4b := (hbel3.trans (hb4.mono (by omega))).grown hgrow4 (by omega) (fun r e => by have := (World.ownsRow.lt hown3b r e).1; omega)
  have hl4 : ((([4] ++ be n16 2) ++ name.data.toList) ++ be key 4).length = 7 + name.size := by rw [List.length_append, HL3.out, be_length]; omega
  have HL4 := Lib.hid hl4
  have hbel5 : Below w.heap.size w w5 := hbel4.grown hgrow5 (by omega) (fun r e => by have := (World.ownsRow.lt hown4 r e).1; omega)
  have z5 := hgrow5.size
  rw [← HN16.out, HMSG.out] at hown5
  have hres5 := hr4.grown hgrow5 (fun e => by have := (World.ownsRow.lt hown4 w.heap.size e.symm).1; omega)
  refine (HSUM.out v5 w5 hown5.rd).mono ?_
  rintro e w6 ⟨rfl, hb6⟩
  have z6 := hb6.size
  have hres6 := hres5.below hb6
  go_wp2_with (((with_reducible refine gate_store (t := 28) (p := 6) rfl ?_); go_loud (refine wp_store_blk rfl 28 _ _ rfl rfl sizeD rfl hres6 (dz_cells) (v := dg out) rfl (dg_size HSL.out) (dg_one _) ?_); intro w7 hk7 hg7))
  have hk8 : Blk w7 w.heap.size 28 (bcs out) := by simpa [Value.cells] using hk7
  have hb7 : Below w.heap.size w w7 := (hbel5.trans (hb6.mono (by omega))).grown hg7 (by omega) (fun r e => by injection e with e; omega)
  clear hk7
  refine bodyPost_ret (results_blk1 (cs := bcs out) rfl aggD sizeD _ rfl hk8 (by rw [bcs_length]; exact HSL.out)) rfl ?_
  exact ⟨rfl, hb7⟩
set_option maxRecDepth 100000 in
set_option maxHeartbeats 1000000 in
theorem ndigests_law (text name : ByteArray) (key : Nat) (w : World) (ht : text.size ≤ 1048576) (hnm : name.size ≤ 1048576) (hk : key < 4294967296) (hK : Kon w) :
    Calls Tryd.prog 8 #[.string text, .string name, .int .u32 (key : Int)] w fun e w' => e = .returned (.bool true) ∧ Below w.heap.size w w' := by
  have hn : ∀ w, Kon w → Calls Tryd.prog 33 #[.string text, .string name, .int .u32 (key : Int)] w fun e w' => e = .returned (dg (sha (signB text name key))) ∧ Below w.heap.size w w' := fun w hK => ndig_calls text name key w ht hnm hk hK
  have hr : ∀ w, Calls Tryd.prog 34 #[.string text, .string name, .int .u32 (key : Int)] w fun e w' => e = .returned (dg (sha (signB text name key))) ∧ Below w.heap.size w w' := fun w => rndig_calls text name key w ht hnm hk
  have hsl := sha_len (signB text name key)
  obtain ⟨out, hout⟩ : ∃ o, sha (signB text name key) = o := ⟨_, rfl⟩
  rw [hout] at hsl
  simp only [hout] at hn hr
  have HN := Lib.hid hn
  have HR := Lib.hid hr
  have HSL := Lib.hid hsl
  have HK := Lib.hid hK
  clear hn hr hsl hout hK
  go_enter Tryd.func8, Tryd.ntmps8
  go_wp2_with (first | (go_at_call 33; go_loud (refine (HN.out _ HK.out).mono ?_); rintro e w1 ⟨rfl, hb1⟩) | (go_at_call 34; go_loud (refine (HR.out _).mono ?_); rintro e w2 ⟨rfl, hb2⟩) | ((with_reducible refine gate_dst (N := 15) rfl ?_); go_loud (refine wp_eq_dg rfl 28 _ 5 32 _ _ rfl Tryd.underlying28 Tryd.underlying5 size8 (by kernel_rfl) rfl rfl (HSL.out) (HSL.out) (beq_self_eq_true _) ?_)))
  go_ret
  exact ⟨rfl, hb1.trans (hb2.mono hb1.size)⟩
end Go.Proofs.YtfefcfjedlidnaaDoor.Sha
