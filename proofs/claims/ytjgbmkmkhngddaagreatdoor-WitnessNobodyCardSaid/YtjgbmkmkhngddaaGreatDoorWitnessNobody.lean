/- The statement WitnessNobodySaid: witnesses that no call made tell nothing, and sign nothing; the package variables that the row lists are tied to the program's text. -/
import Derived.Test.YtjgbmkmkhngddaaGreatDoorCards
import Derived.Test.YtjgbmkmkhngddaaGreatDoorTie
import Derived.LaidMore
import Derived.Lay
import Derived.SevenTiedAt
import Derived.Stop.Joined
import Derived.ProofKit
import Derived.Test.YtjgbmkmkhngddaaGreatDoorWiNob
import Derived.Test.YtjgbmkmkhngddaaGreatDoorOpen
import Derived.Test.YtjgbmkmkhngddaaGreatDoorOpenS
namespace Go.Proofs.YtjgbmkmkhngddaaGreatDoor.rowWitnessNobody
open Go.ChangeShapes Go.WideShapes Go.ChangeAt Go.RowKit Go.Joins Go.Proofs.YtjgbmkmkhngddaaGreatDoor.Opn Go.Proofs.YtjgbmkmkhngddaaGreatDoor.Cop
open Go.ChangeMaps (open_string shut_string)
set_option linter.unusedVariables false

set_option maxRecDepth 100000 in
theorem lifted (os : Os) (started : os.Started) (H : Type) (enc : TypeId × Value → H) :
    ReturnsInHanded {} Tryz.checked os 3 .any (fun w args => (Rows.witnessNobodySpec.pre enc Tryz.prog Tryz.f3 Rows.witnessNobodyRow.domain false w args ∧ laidMetH Tryz.prog Rows.witnessNobodyRow.laid w) ∧ sizedMet enc Tryz.prog Tryz.f3 (OpenSpec.ofChange Rows.witnessNobodySpec) false w args) (Rows.witnessNobodySpec.post enc Tryz.prog Tryz.f3 false true false false) := by
  refine returnsInHanded_of_change_and (C := Tryz.checked) (X := (fun w _ => laidMetH Tryz.prog Rows.witnessNobodyRow.laid w)) (fun _ _ _ hh h => h.of_heap hh) own started (by kernel_rfl) Tryz.func3
    (ChangeSpec.witness_shaped (enc := enc) (C := Tryz.checked) (os := os) (X := (fun w _ => laidMetH Tryz.prog Rows.witnessNobodyRow.laid w)) false (World.laidAll Tryz.prog os Rows.witnessNobodyRow.laid) #[.agg #[.string ⟨#[]⟩, .slice none 0 0, .string ⟨#[]⟩, .bool false]] 8 (World.laidAll_os _ _ _)
      (World.shaped_of_ZipB (by kernel_rfl) (by kernel_rfl)) (by kernel_rfl) (by kernel_rfl) (by kernel_rfl)
      (by rw [MakeChecks.laidMetH_plain _ _ _ (by kernel_rfl)]; exact laidMet_laidAll _ (by kernel_rfl) (by kernel_rfl))) ?_
  intro W base args ds gs before hval0 hW hcnd hsz0 hL _
  have HL := Lib.hid hL
  clear hL
  have hsz : (DataW.weightsEach Tryz.prog (Tryz.f3.params.toList ++ Rows.witnessNobodySpec.plain.varTypes Tryz.prog) (ds ++ gs)).all (· ≤ reachBytes) = true := hsz0
  clear hsz0
  have hval : ∀ (j : Nat) t v, Tryz.f3.params[j]? = some t → args[j]? = some v → Value.okWide Tryz.prog W .any base t v := hval0
  have hW' := hW
  obtain ⟨p, q, hA0, hV, rfl, hfz, hnd⟩ := hW
  have hA : DataW.TrodAll enc Tryz.prog W 0 (fun _ => true) true Tryz.f3.params.toList args.toList ds p := hA0
  rw [Tryz.params3] at hA hval hsz
  obtain ⟨v0, vs0, d0, ds0, p0, q0, hargs, rfl, rfl, h0, r0⟩ := trodAll_cons hA
  obtain ⟨rfl, rfl, rfl⟩ := trodAll_nil r0
  obtain rfl : args = #[v0] := by cases args; simp_all
  obtain ⟨rfl, rfl⟩ := trodVars_none hV
  have k0 := h0
  have lt0 : ∀ x ∈ p0, x.block < W.heap.size := by obtain ⟨m, hm⟩ := k0; exact DataW.trod_lt m _ _ _ hm
  have hwalk : Calls Tryz.prog 3 #[v0] W fun e w' => e = .returned (.bool true) ∧ Below W.heap.size W w' := by
    obtain ⟨cs, rfl, hsz4, hfs⟩ := Go.Proofs.YtjgbmkmkhngddaaGreatDoor.Opn.open_fields Tryz.underlying24 (by kernel_rfl) (by kernel_rfl) (hval 0 24 v0 rfl rfl) h0
    obtain ⟨c0, c1, c2, c3, rfl⟩ := Go.Joins.array4 (hsz4.trans rfl)
    obtain ⟨_, _, hy0⟩ := hfs 0 _ c0 rfl rfl
    obtain ⟨_, _, hy2⟩ := hfs 2 _ c2 rfl rfl
    obtain ⟨_, _, hy3⟩ := hfs 3 _ c3 rfl rfl
    obtain ⟨t0, e0, _, _⟩ := DataW.trod_string Tryz.underlying9 hy0
    obtain ⟨t2, e2, _, _⟩ := DataW.trod_string Tryz.underlying9 hy2
    obtain ⟨b3, e3, _⟩ := DataW.trod_bool Tryz.underlying4 hy3
    simp at e0 e2 e3
    subst e0 e2 e3
    exact Go.Proofs.YtjgbmkmkhngddaaGreatDoor.Nob.witness_law t0 t2 c1 b3 W
  clear hA0 hval0
  refine hwalk.mono fun e W' ⟨he, bel⟩ => ?_
  subst he
  exact ⟨_, rfl, _, _, _, [], _, [], hW', trodAll_mk1 (shut_bool Tryz.underlying4 _), (trodAll_cons_mk (Below.trod laidOut (by kernel_rfl) (of_decide_eq_true (by kernel_rfl)) k0 bel lt0) trodAll_mk0), rfl, bel.frame _, fun h => by cases h⟩

/-- The given statement. -/
theorem witnessNobody_holds : Rows.WitnessNobodySaid :=
  OpenClaim.holds_of_wide 3 Tryz.f3 rfl rfl rfl rfl rfl rfl rfl ⟨rfl, rfl, rfl, rfl, rfl⟩ rfl rfl rfl rfl rfl (by kernel_rfl) Tryz.func3 (by kernel_rfl)
    (of_decide_eq_true (by kernel_rfl)) (by unfold Func.isWrapper; first | (rw [if_pos (by decide +kernel)]; kernel_rfl) | (rw [if_neg (by decide +kernel)]; exact ⟨rfl, rfl⟩))
    (fun os started H enc _ => lifted os started H enc)
#print axioms witnessNobody_holds
/-- THE TIED CARD. -/
theorem witnessNobody_card : Rows.WitnessNobodyCardSaid :=
  Claim7.holds_tied_plain_at .later [] [.data, .data, .data, .data, .sentinel, .sentinel, .data, .data, .pinned] true (true, "a2cb1005cd2116570cef27b711be1661a931b9c0a9775f6b0ff9920a5f8c4126") true witnessNobody_holds (fun _ h => by cases h) (by kernel_rfl) (fun _ h => by cases h) Go.Proofs.YtjgbmkmkhngddaaGreatDoor.witnessNobody_row_tie rfl ⟨rfl, rfl⟩ (by kernel_rfl) rfl
    (fun f fn hf hfn => by
      obtain rfl : f = 3 := Option.some.inj ((show Tryz.prog.funcNamed "coppice/coppicelaw24.WitnessNobody" = some 3 by kernel_rfl).symm.trans hf) |>.symm
      obtain rfl : fn = Tryz.f3 := (Option.some.inj (Tryz.func3.symm.trans hfn)).symm
      exact ⟨by kernel_rfl, fun j t ht => by
        rw [Tryz.params3] at ht
        have hm : t ∈ [24] := by simpa using Array.mem_of_getElem? ht
        have hall : ([24].all fun u => !Tryz.prog.wantsStandIn u) = true := by kernel_rfl
        exact (show Tryz.prog.wantsStandIn t = false by simpa using List.all_eq_true.1 hall t hm)⟩)
    (by kernel_rfl)
#print axioms witnessNobody_card
end Go.Proofs.YtjgbmkmkhngddaaGreatDoor.rowWitnessNobody
