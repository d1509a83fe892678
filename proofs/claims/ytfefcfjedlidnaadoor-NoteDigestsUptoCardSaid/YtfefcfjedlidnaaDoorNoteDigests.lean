/- The statement NoteDigestsUptoSaid: the tied card: for any text, name and key (what is read at most 2^20 in bulk) what the signer signs has the digest of the reference. -/
import Derived.Test.YtfefcfjedlidnaaDoorCards
import Derived.Test.YtfefcfjedlidnaaDoorTie
import Derived.LaidMore
import Derived.Lay
import Derived.SevenTiedAt
import Derived.Stop.Joined
import Derived.Deep.DeepHandedRow
import Derived.ProofKit
import Derived.Test.YtfefcfjedlidnaaDoorNotE
import Derived.Test.YtfefcfjedlidnaaDoorKon
import Derived.Test.YtfefcfjedlidnaaDoorOpen
import Derived.Test.YtfefcfjedlidnaaDoorOpenN
import Derived.JoinedCond
import Derived.Deep.CondSized
namespace Go.Proofs.YtfefcfjedlidnaaDoor.rowNoteDigests
open Go.ChangeShapes Go.WideShapes Go.ChangeAt Go.RowKit Go.Joins Go.Proofs.YtfefcfjedlidnaaDoor.Opn Go.Proofs.YtfefcfjedlidnaaDoor.Cop
open Go.ChangeMaps (open_string shut_string)
set_option linter.unusedVariables false

set_option maxRecDepth 100000 in
theorem lifted (os : Os) (started : os.Started) (H : Type) (enc : TypeId × Value → H) (F : Stop.Interp) :
    ReturnsInHanded {} Tryd.checked os 8 .any ((Rows.OpenSpec.upto Rows.noteDigestsSpec).preRow enc Tryd.prog Tryd.f8 Rows.noteDigestsUptoRow.domain false Rows.noteDigestsUptoRow.laid) (((Rows.OpenSpec.upto Rows.noteDigestsSpec).at F).post enc Tryd.prog Tryd.f8 false true false false) := by
  refine returnsInHanded_of_row (C := Tryd.checked) own started (by kernel_rfl) Tryd.func8
    ⟨(World.laidAll Tryd.prog os Rows.noteDigestsUptoRow.laid), fun _ _ => 0, ⟨#[], #[.string ⟨#[]⟩, .string ⟨#[]⟩, .int .u32 0], []⟩, World.laidAll_os _ _ _, World.shaped_of_ZipB (by kernel_rfl) (by kernel_rfl), rfl,
      (Input.okWide_of_okWideB (show Input.okWideB Tryd.checked.prog ((World.laidAll Tryd.prog os Rows.noteDigestsUptoRow.laid).forCall (fun _ _ => 0) ⟨#[], #[.string ⟨#[]⟩, .string ⟨#[]⟩, .int .u32 0], []⟩) 8 ⟨#[], #[.string ⟨#[]⟩, .string ⟨#[]⟩, .int .u32 0], []⟩ = true by kernel_rfl)).2,
      OpenSpec.preRow_of_cond 8 (x := ([.lit (.string []), .lit (.string []), .lit (.int .u32 0)], [], [])) (by kernel_rfl) rfl (fun k hk => by cases hk; kernel_rfl) (by kernel_rfl)
        (by rw [MakeChecks.laidMetH_plain _ _ _ (by kernel_rfl)]; exact laidMet_laidAll _ (by kernel_rfl) (by kernel_rfl)),
      by
        simp only [Assume.holds]
        exact ⟨by simp, by simp, fun _ => Modest.zero, by simp, by simp⟩⟩ ?_
  intro W base args ds gs before hval0 hW hcnd hk00 hsz0 hL _ _
  have HL := Lib.hid hL
  clear hL
  have hk0 := hk00 _ rfl
  have hkk : Rows.uptoSmall H (ds ++ gs) = true := hk0
  clear hk0
  have hsz : (DataW.weightsEach Tryd.prog (Tryd.f8.params.toList ++ Rows.noteDigestsSpec.plain.varTypes Tryd.prog) (ds ++ gs)).all (· ≤ reachBytes) = true := hsz0
  clear hsz0
  have hval : ∀ (j : Nat) t v, Tryd.f8.params[j]? = some t → args[j]? = some v → Value.okWide Tryd.prog W .any base t v := hval0
  have hW' := hW
  obtain ⟨p, q, hA0, hV, rfl, hfz, hnd⟩ := hW
  have hA : DataW.TrodAll enc Tryd.prog W 0 (fun _ => true) true Tryd.f8.params.toList args.toList ds p := hA0
  rw [Tryd.params8] at hA hval hsz
  obtain ⟨v0, vs0, d0, ds0, p0, q0, hargs, rfl, rfl, h0, r0⟩ := trodAll_cons hA
  obtain ⟨v1, vs1, d1, ds1, p1, q1, rfl, rfl, rfl, h1, r1⟩ := trodAll_cons r0
  obtain ⟨v2, vs2, d2, ds2, p2, q2, rfl, rfl, rfl, h2, r2⟩ := trodAll_cons r1
  obtain ⟨rfl, rfl, rfl⟩ := trodAll_nil r2
  obtain rfl : args = #[v0, v1, v2] := by cases args; simp_all
  obtain ⟨rfl, rfl⟩ := trodVars_none hV
  have k0 := h0
  have lt0 : ∀ x ∈ p0, x.block < W.heap.size := by obtain ⟨m, hm⟩ := k0; exact DataW.trod_lt m _ _ _ hm
  have k1 := h1
  have lt1 : ∀ x ∈ p1, x.block < W.heap.size := by obtain ⟨m, hm⟩ := k1; exact DataW.trod_lt m _ _ _ hm
  have k2 := h2
  have lt2 : ∀ x ∈ p2, x.block < W.heap.size := by obtain ⟨m, hm⟩ := k2; exact DataW.trod_lt m _ _ _ hm
  have hwalk : Calls Tryd.prog 8 #[v0, v1, v2] W fun e w' => e = .returned (.bool true) ∧ Below W.heap.size W w' := by
    obtain ⟨s0, rfl, hd0, _, ws0⟩ := open_string Tryd.underlying9 (hval 0 9 v0 rfl rfl) h0
    have l0 : s0.size ≤ 1048576 := bulk_string hkk (bytes := s0.data.toList) (by simp [hd0])
    obtain ⟨s1, rfl, hd1, _, ws1⟩ := open_string Tryd.underlying9 (hval 1 9 v1 rfl rfl) h1
    have l1 : s1.size ≤ 1048576 := bulk_string hkk (bytes := s1.data.toList) (by simp [hd1])
    obtain ⟨a2, rfl, rfl, _, wf2⟩ := open_int Tryd.underlying60 (hval 2 60 v2 rfl rfl) h2
    obtain ⟨x2, rfl, hx2⟩ := wf_u32 wf2
    exact Go.Proofs.YtfefcfjedlidnaaDoor.Sha.ndigests_law s0 s1 x2 W l0 l1 hx2 (Go.Proofs.YtfefcfjedlidnaaDoor.Sha.kon_laid (rest := []) (by have h := HL.out; rw [MakeChecks.laidMetH_plain _ _ _ (by kernel_rfl)] at h; exact h))
  clear hA0 hval0
  refine hwalk.mono fun e W' ⟨he, bel⟩ => ?_
  subst he
  exact ⟨_, rfl, _, _, _, [], _, [], hW', trodAll_mk1 (shut_bool Tryd.underlying4 _), (trodAll_cons_mk (Below.trod laidOut (by kernel_rfl) (of_decide_eq_true (by kernel_rfl)) k0 bel lt0) (trodAll_cons_mk (Below.trod laidOut (by kernel_rfl) (of_decide_eq_true (by kernel_rfl)) k1 bel lt1) (trodAll_cons_mk (Below.trod laidOut (by kernel_rfl) (of_decide_eq_true (by kernel_rfl)) k2 bel lt2) trodAll_mk0))), rfl, bel.frame _, fun h => by cases h⟩

/-- The given statement. -/
theorem noteDigests_holds : Rows.NoteDigestsUptoSaid :=
  OpenClaim.holds_of_cond 8 Tryd.f8 rfl rfl rfl rfl rfl rfl rfl ⟨rfl, rfl, rfl, rfl, rfl⟩ rfl rfl rfl rfl rfl (by kernel_rfl) Tryd.func8 (by kernel_rfl)
    (of_decide_eq_true (by kernel_rfl)) (by unfold Func.isWrapper; first | (rw [if_pos (by decide +kernel)]; kernel_rfl) | (rw [if_neg (by decide +kernel)]; exact ⟨rfl, rfl⟩))
    (fun os started H enc _ F => by rw [OpenClaim.pre_eq_preRow]; exact lifted os started H enc F)
#print axioms noteDigests_holds
/-- THE TIED CARD. -/
theorem noteDigests_card : Rows.NoteDigestsUptoCardSaid :=
  Claim7.holds_tied_plain_at .later [] [.data] true (true, "ced22b6b409431156d04523026988e0fa52335eabf209fce2ae3380c4d9dcb13") false noteDigests_holds (fun _ h => by cases h) (by kernel_rfl) (fun _ h => by cases h) Go.Proofs.YtfefcfjedlidnaaDoor.noteDigestsUpto_row_tie rfl ⟨rfl, rfl⟩ (by kernel_rfl) rfl
    (fun f fn hf hfn => by
      obtain rfl : f = 8 := Option.some.inj ((show Tryd.prog.funcNamed "coppice/coppicelaw21.NoteDigests" = some 8 by kernel_rfl).symm.trans hf) |>.symm
      obtain rfl : fn = Tryd.f8 := (Option.some.inj (Tryd.func8.symm.trans hfn)).symm
      exact ⟨by kernel_rfl, fun j t ht => by
        rw [Tryd.params8] at ht
        have hm : t ∈ [9, 9, 60] := by simpa using Array.mem_of_getElem? ht
        have hall : ([9, 9, 60].all fun u => !Tryd.prog.wantsStandIn u) = true := by kernel_rfl
        exact (show Tryd.prog.wantsStandIn t = false by simpa using List.all_eq_true.1 hall t hm)⟩)
    (by kernel_rfl)
#print axioms noteDigests_card
end Go.Proofs.YtfefcfjedlidnaaDoor.rowNoteDigests
