/- The statement CheckpointThreeSaid: of two checkpoints of one origin just one holds: one goes on from the other, they are the same, or they are split. The tables of utf8, of hash and of strconv lie as the program's text lays them. -/
import Derived.Test.YtfefcfjedlidnaaDoorCards
import Derived.Test.YtfefcfjedlidnaaDoorTie
import Derived.LaidMore
import Derived.Lay
import Derived.SevenTiedAt
import Derived.Stop.Joined
import Derived.Deep.DeepHandedRow
import Derived.ProofKit
import Derived.Test.YtfefcfjedlidnaaDoorCkG
import Derived.Test.YtfefcfjedlidnaaDoorOpen
import Derived.Test.YtfefcfjedlidnaaDoorOpenCk
import Derived.Test.YtfefcfjedlidnaaDoorTab
import Derived.Test.YtfefcfjedlidnaaDoorTabP
namespace Go.Proofs.YtfefcfjedlidnaaDoor.rowCheckpointThree
open Go.ChangeShapes Go.WideShapes Go.ChangeAt Go.RowKit Go.Joins Go.Proofs.YtfefcfjedlidnaaDoor.Opn Go.Proofs.YtfefcfjedlidnaaDoor.Cop
open Go.ChangeMaps (open_string shut_string)
set_option linter.unusedVariables false

set_option maxRecDepth 100000 in
theorem lifted (os : Os) (started : os.Started) (H : Type) (enc : TypeId × Value → H) :
    ReturnsInHanded {} Tryd.checked os 6 .any (fun w args => (Rows.checkpointThreeSpec.pre enc Tryd.prog Tryd.f6 Rows.checkpointThreeRow.domain false w args ∧ laidMetH Tryd.prog Rows.checkpointThreeRow.laid w) ∧ sizedMet enc Tryd.prog Tryd.f6 (OpenSpec.ofChange Rows.checkpointThreeSpec) false w args) (Rows.checkpointThreeSpec.post enc Tryd.prog Tryd.f6 false true false false) := by
  refine returnsInHanded_of_change_and (C := Tryd.checked) (X := (fun w _ => laidMetH Tryd.prog Rows.checkpointThreeRow.laid w)) (fun _ _ _ hh h => h.of_heap hh) own started (by kernel_rfl) Tryd.func6
    (ChangeSpec.witness_shaped (enc := enc) (C := Tryd.checked) (os := os) (X := (fun w _ => laidMetH Tryd.prog Rows.checkpointThreeRow.laid w)) false (World.laidAll Tryd.prog os Rows.checkpointThreeRow.laid) #[.agg (Value.string ⟨#[]⟩ :: Value.int .i64 0 :: List.replicate 32 (Value.int .u8 0)).toArray, .agg (Value.string ⟨#[]⟩ :: Value.int .i64 0 :: List.replicate 32 (Value.int .u8 0)).toArray] 8 (World.laidAll_os _ _ _)
      (World.shaped_of_ZipB (by kernel_rfl) (by kernel_rfl)) (by kernel_rfl) (by kernel_rfl) (by kernel_rfl)
      (by rw [MakeChecks.laidMetH_plain _ _ _ (by kernel_rfl)]; exact laidMet_laidAll _ (by kernel_rfl) (by kernel_rfl))) ?_
  intro W base args ds gs before hval0 hW hcnd hsz0 hL _
  have HL := Lib.hid hL
  clear hL
  have hsz : (DataW.weightsEach Tryd.prog (Tryd.f6.params.toList ++ Rows.checkpointThreeSpec.plain.varTypes Tryd.prog) (ds ++ gs)).all (· ≤ reachBytes) = true := hsz0
  clear hsz0
  have hval : ∀ (j : Nat) t v, Tryd.f6.params[j]? = some t → args[j]? = some v → Value.okWide Tryd.prog W .any base t v := hval0
  have hW' := hW
  obtain ⟨p, q, hA0, hV, rfl, hfz, hnd⟩ := hW
  have hA : DataW.TrodAll enc Tryd.prog W 0 (fun _ => true) true Tryd.f6.params.toList args.toList ds p := hA0
  rw [Tryd.params6] at hA hval hsz
  obtain ⟨v0, vs0, d0, ds0, p0, q0, hargs, rfl, rfl, h0, r0⟩ := trodAll_cons hA
  obtain ⟨v1, vs1, d1, ds1, p1, q1, rfl, rfl, rfl, h1, r1⟩ := trodAll_cons r0
  obtain ⟨rfl, rfl, rfl⟩ := trodAll_nil r1
  obtain rfl : args = #[v0, v1] := by cases args; simp_all
  obtain ⟨rfl, rfl⟩ := trodVars_none hV
  have k0 := h0
  have lt0 : ∀ x ∈ p0, x.block < W.heap.size := by obtain ⟨m, hm⟩ := k0; exact DataW.trod_lt m _ _ _ hm
  have k1 := h1
  have lt1 : ∀ x ∈ p1, x.block < W.heap.size := by obtain ⟨m, hm⟩ := k1; exact DataW.trod_lt m _ _ _ hm
  have hwalk : Calls Tryd.prog 6 #[v0, v1] W fun e w' => e = .returned (.bool true) ∧ Below W.heap.size W w' := by
    obtain ⟨s0, n0, dd0, rfl, ld0, lo0, hi0⟩ := open_ck (hval 0 51 v0 rfl rfl) h0
    obtain ⟨s1, n1, dd1, rfl, ld1, lo1, hi1⟩ := open_ck (hval 1 51 v1 rfl rfl) h1
    exact Go.Proofs.YtfefcfjedlidnaaDoor.Sha.three_law s0 n0 dd0 s1 n1 dd1 ld0 ld1 W (by have h := HL.out; rw [MakeChecks.laidMetH_plain _ _ _ (by kernel_rfl)] at h; exact Go.Proofs.YtfefcfjedlidnaaDoor.Sha.tabs_reads (Lib.laidMet.reads h (.tail _ (.tail _ (.tail _ (.tail _ (.tail _ (.head _))))))) (Lib.laidMet.reads h (.tail _ (.tail _ (.tail _ (.head _)))))) (by have h := HL.out; rw [MakeChecks.laidMetH_plain _ _ _ (by kernel_rfl)] at h; exact Go.Proofs.YtfefcfjedlidnaaDoor.Sha.kon_reads (Lib.laidMet.reads h (.tail _ (.tail _ (.tail _ (.tail _ (.head _))))))) (by have h := HL.out; rw [MakeChecks.laidMetH_plain _ _ _ (by kernel_rfl)] at h; exact Go.Proofs.YtfefcfjedlidnaaDoor.Ito.pows_reads (Lib.laidMet.reads h (.tail _ (.tail _ (.head _)))))
  clear hA0 hval0
  refine hwalk.mono fun e W' ⟨he, bel⟩ => ?_
  subst he
  exact ⟨_, rfl, _, _, _, [], _, [], hW', trodAll_mk1 (shut_bool Tryd.underlying4 _), (trodAll_cons_mk (Below.trod laidOut (by kernel_rfl) (of_decide_eq_true (by kernel_rfl)) k0 bel lt0) (trodAll_cons_mk (Below.trod laidOut (by kernel_rfl) (of_decide_eq_true (by kernel_rfl)) k1 bel lt1) trodAll_mk0)), rfl, bel.frame _, fun h => by cases h⟩

/-- The given statement. -/
theorem checkpointThree_holds : Rows.CheckpointThreeSaid :=
  OpenClaim.holds_of_wide 6 Tryd.f6 rfl rfl rfl rfl rfl rfl rfl ⟨rfl, rfl, rfl, rfl, rfl⟩ rfl rfl rfl rfl rfl (by kernel_rfl) Tryd.func6 (by kernel_rfl)
    (of_decide_eq_true (by kernel_rfl)) (by unfold Func.isWrapper; first | (rw [if_pos (by decide +kernel)]; kernel_rfl) | (rw [if_neg (by decide +kernel)]; exact ⟨rfl, rfl⟩))
    (fun os started H enc _ => lifted os started H enc)
#print axioms checkpointThree_holds
/-- THE TIED CARD. -/
theorem checkpointThree_card : Rows.CheckpointThreeCardSaid :=
  Claim7.holds_tied_plain_at .later [] [.data, .data, .data, .data, .data, .pinned] true (true, "ced22b6b409431156d04523026988e0fa52335eabf209fce2ae3380c4d9dcb13") false checkpointThree_holds (fun _ h => by cases h) (by kernel_rfl) (fun _ h => by cases h) Go.Proofs.YtfefcfjedlidnaaDoor.checkpointThree_row_tie rfl ⟨rfl, rfl⟩ (by kernel_rfl) rfl
    (fun f fn hf hfn => by
      obtain rfl : f = 6 := Option.some.inj ((show Tryd.prog.funcNamed "coppice/coppicelaw22.CheckpointThree" = some 6 by kernel_rfl).symm.trans hf) |>.symm
      obtain rfl : fn = Tryd.f6 := (Option.some.inj (Tryd.func6.symm.trans hfn)).symm
      exact ⟨by kernel_rfl, fun j t ht => by
        rw [Tryd.params6] at ht
        have hm : t ∈ [51, 51] := by simpa using Array.mem_of_getElem? ht
        have hall : ([51, 51].all fun u => !Tryd.prog.wantsStandIn u) = true := by kernel_rfl
        exact (show Tryd.prog.wantsStandIn t = false by simpa using List.all_eq_true.1 hall t hm)⟩)
    (by kernel_rfl)
#print axioms checkpointThree_card
end Go.Proofs.YtfefcfjedlidnaaDoor.rowCheckpointThree
