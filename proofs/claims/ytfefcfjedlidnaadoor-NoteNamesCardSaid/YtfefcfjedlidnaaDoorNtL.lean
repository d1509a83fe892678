/- The law NoteNames. -/
import Derived.Test.YtfefcfjedlidnaaDoorNtK
import Derived.Test.YtfefcfjedlidnaaDoorNtT
namespace Go.Proofs.YtfefcfjedlidnaaDoor.Sha
open Go Go.RowKit Go.Proofs.YtfefcfjedlidnaaDoor.Cop Go.Proofs.YtfefcfjedlidnaaDoor.Oct Go.Proofs.YtfefcfjedlidnaaDoor.Utf
set_option linter.unusedVariables false
set_option linter.unusedSimpArgs false
theorem names21_calls (w : World) : Calls Tryd.prog 39 #[] w fun e w' => e = .returned (.bool true) ∧ w = w' := by
  go_enter Tryd.func39, Tryd.ntmps39
  go_wp2_with fail
  go_ret
  exact ⟨rfl, rfl⟩
theorem beq_self_c (b : Bool) : (b == b) = true := by cases b <;> rfl
attribute [local go_sem] beq_self_c
set_option maxRecDepth 100000 in
theorem nn_law (s : ByteArray) (d : List UInt8) (hd : d.length = 32) (w : World) (hT : Tabs w) (hK : Kon w) : Calls Tryd.prog 10 #[.string s, dg d] w fun e w' => e = .returned (.bool true) ∧ Below w.heap.size w w' := by
  have hk : ∀ w', Below w.heap.size w w' → Calls Tryd.prog 40 #[.string s, dg d] w' _ := fun w' hb => key_calls s d hd w' (hK.below hb)
  have hr : ∀ w', Calls Tryd.prog 41 #[.string s, dg d] w' _ := fun w' => rkey_calls s d hd w'
  obtain ⟨k, e, hke⟩ : ∃ k e : Nat, (if nameB s then Value.tuple #[.int .u32 (keyN s d : Int), .int .i64 0] else .tuple #[.int .u32 0, .int .i64 2]) = .tuple #[.int .u32 (k : Int), .int .i64 (e : Int)] := by
    cases nameB s
    · exact ⟨0, 2, rfl⟩
    · exact ⟨keyN s d, 0, rfl⟩
  rw [hke] at hk hr
  have hn := fun w => name_calls s w
  have hrn := fun w => rname_calls s w
  have ht : ∀ w', Below w.heap.size w w' → Calls Tryd.prog 44 #[.string s] w' _ := fun w' hb => text_calls s w' (Utf8Tabs_below hT hb)
  have hrt := fun w => rtext_calls s w
  generalize nameB s = NB at hn hrn
  generalize textB s = TB at ht hrt
  have HK := Lib.hid hk
  have HR := Lib.hid hr
  have HN := Lib.hid hn
  have HRN := Lib.hid hrn
  have HT := Lib.hid ht
  have HRT := Lib.hid hrt
  have HD := Lib.hid hd
  clear hk hr hn hrn ht hrt hke hd hT hK
  go_enter Tryd.func10, Tryd.ntmps10
  go_wp2_with (first | (((with_reducible refine gate_dst (N := 3) rfl ?_); go_loud (refine wp_box rfl _ _ rfl (v := dg d) rfl ?_); intro w1 hk1 hb1 hz1); have hk1' : Blk w1 w.heap.size 28 (bcs d) := by simpa [Value.cells] using hk1) | (((with_reducible refine gate_dst (N := 11) rfl ?_); go_loud (refine wp_load_blk rfl 28 _ rfl aggD sizeD rfl hk1' ((by rw [bcs_length]; exact HD.out)) ?_))) | (((with_reducible refine gate_dst (N := 17) rfl ?_); go_loud (refine wp_load_blk rfl 28 _ rfl aggD sizeD rfl hk2 ((by rw [bcs_length]; exact HD.out)) ?_))) | (go_at_call 40; go_loud (refine (HK.out _ hb1).mono ?_); rintro e w2 ⟨rfl, hb2⟩; have hk2 := hk1'.below hb2; have hb02 : Below w.heap.size w w2 := hb1.trans (hb2.mono hb1.size); clear hk1 hk1') | (go_at_call 41; go_loud (refine (HR.out _).mono ?_); rintro e w3 ⟨rfl, hb3⟩; have hb03 : Below w.heap.size w w3 := hb02.trans (hb3.mono hb02.size)))
  refine (HN.out w3).mono ?_
  rintro e w4 ⟨rfl, hb4⟩
  have hb04 : Below w.heap.size w w4 := hb03.trans (hb4.mono hb03.size)
  go_wp2_with fail
  refine (HRN.out w4).mono ?_
  rintro e w' ⟨rfl, rfl⟩
  go_wp2_with fail
  refine (HT.out w4 hb04).mono ?_
  rintro e w5 ⟨rfl, hb5⟩
  have hb05 : Below w.heap.size w w5 := hb04.trans (hb5.mono hb04.size)
  go_wp2_with fail
  refine (HRT.out w5).mono ?_
  rintro e w' ⟨rfl, rfl⟩
  go_wp2_with (go_at_call 39; go_loud (refine (names21_calls _).mono ?_); rintro e w' ⟨rfl, rfl⟩)
  go_ret
  exact ⟨rfl, hb05⟩
end Go.Proofs.YtfefcfjedlidnaaDoor.Sha
