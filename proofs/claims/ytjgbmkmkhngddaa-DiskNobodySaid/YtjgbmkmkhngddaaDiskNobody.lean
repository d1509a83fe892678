/- The statement DiskNobodySaid: disks that no call made tell nothing, and do nothing. -/
import Derived.Test.YtjgbmkmkhngddaaRows
import Derived.Test.YtjgbmkmkhngddaaDkLaw
import Derived.Test.YtjgbmkmkhngddaaOpen
import Derived.Test.YtjgbmkmkhngddaaOpenS
namespace Go.Proofs.Ytjgbmkmkhngddaa.rowDiskNobody
open Go.ChangeShapes Go.WideShapes Go.ChangeAt Go.RowKit Go.Joins Go.Proofs.Ytjgbmkmkhngddaa.Opn Go.Proofs.Ytjgbmkmkhngddaa.Cop
open Go.ChangeMaps (open_string shut_string)
set_option linter.unusedVariables false

set_option maxRecDepth 100000 in
theorem lifted (os : Os) (started : os.Started) (H : Type) (enc : TypeId × Value → H) :
    ReturnsInHanded {} Try.checked os 3 .any (Rows.diskNobodySpec.pre6 enc Try.prog Try.f3 Rows.diskNobodyRow.domain false) (Rows.diskNobodySpec.post enc Try.prog Try.f3 false true false false) := by
  refine returnsInHanded_of_change_sized (C := Try.checked) own started (by kernel_rfl) Try.func3
    (ChangeSpec.witness6 (enc := enc) (C := Try.checked) false ⟨#[], #[.agg #[.int .i64 0, .string ⟨#[]⟩, .string ⟨#[]⟩, .slice none 0 0, .int .i64 0, .int .i64 0]], []⟩ 8 (by kernel_rfl) (by kernel_rfl) (by kernel_rfl) (by kernel_rfl)) ?_
  intro W base args ds gs before hval0 hW hcnd hsz0 _
  have hsz : (DataW.weightsEach Try.prog (Try.f3.params.toList ++ Rows.diskNobodySpec.plain.varTypes Try.prog) (ds ++ gs)).all (· ≤ reachBytes) = true := hsz0
  clear hsz0
  have hval : ∀ (j : Nat) t v, Try.f3.params[j]? = some t → args[j]? = some v → Value.okWide Try.prog W .any base t v := hval0
  have hW' := hW
  obtain ⟨p, q, hA0, hV, rfl, hfz, hnd⟩ := hW
  have hA : DataW.TrodAll enc Try.prog W 0 (fun _ => true) true Try.f3.params.toList args.toList ds p := hA0
  rw [Try.params3] at hA hval hsz
  obtain ⟨v0, vs0, d0, ds0, p0, q0, hargs, rfl, rfl, h0, r0⟩ := trodAll_cons hA
  obtain ⟨rfl, rfl, rfl⟩ := trodAll_nil r0
  obtain rfl : args = #[v0] := by cases args; simp_all
  obtain ⟨rfl, rfl⟩ := trodVars_none hV
  have k0 := h0
  have lt0 : ∀ x ∈ p0, x.block < W.heap.size := by obtain ⟨m, hm⟩ := k0; exact DataW.trod_lt m _ _ _ hm
  have hwalk : Calls Try.prog 3 #[v0] W fun e w' => e = .returned (.bool true) ∧ Below W.heap.size W w' := by
    obtain ⟨cs, rfl, hsz6, hfs⟩ := Go.Proofs.Ytjgbmkmkhngddaa.Opn.open_fields Try.underlying24 (by kernel_rfl) (by kernel_rfl) (hval 0 24 v0 rfl rfl) h0
    obtain ⟨c0, c1, c2, c3, c4, c5, rfl⟩ := Go.Proofs.Ytjgbmkmkhngddaa.Opn.array6 (hsz6.trans rfl)
    obtain ⟨_, _, hy0⟩ := hfs 0 _ c0 rfl rfl
    obtain ⟨_, _, hy1⟩ := hfs 1 _ c1 rfl rfl
    obtain ⟨_, _, hy2⟩ := hfs 2 _ c2 rfl rfl
    obtain ⟨_, _, hy4⟩ := hfs 4 _ c4 rfl rfl
    obtain ⟨_, _, hy5⟩ := hfs 5 _ c5 rfl rfl
    obtain ⟨i0, e0, _, _⟩ := DataW.trod_int Try.underlying3 hy0
    obtain ⟨i4, e4, _, _⟩ := DataW.trod_int Try.underlying3 hy4
    obtain ⟨i5, e5, _, _⟩ := DataW.trod_int Try.underlying3 hy5
    obtain ⟨t1, e1, _, _⟩ := DataW.trod_string Try.underlying9 hy1
    obtain ⟨t2, e2, _, _⟩ := DataW.trod_string Try.underlying9 hy2
    simp at e0 e1 e2 e4 e5
    subst e0 e1 e2 e4 e5
    exact Go.Proofs.Ytjgbmkmkhngddaa.Nob.disk_law i0 i4 i5 t1 t2 c3 W
  clear hA0 hval0
  refine hwalk.mono fun e W' ⟨he, bel⟩ => ?_
  subst he
  exact ⟨_, rfl, _, _, _, [], _, [], hW', trodAll_mk1 (shut_bool Try.underlying4 _), (trodAll_cons_mk (Below.trod laidOut (by kernel_rfl) (of_decide_eq_true (by kernel_rfl)) k0 bel lt0) trodAll_mk0), rfl, bel.frame _, fun h => by cases h⟩

/-- The given statement. -/
theorem diskNobody_holds : Rows.DiskNobodySaid :=
  OpenClaim.holds_of_wide 3 Try.f3 rfl rfl rfl rfl rfl rfl rfl ⟨rfl, rfl, rfl, rfl, rfl⟩ rfl rfl rfl rfl rfl (by kernel_rfl) Try.func3 (by kernel_rfl)
    (of_decide_eq_true (by kernel_rfl)) (by unfold Func.isWrapper; first | (rw [if_pos (by decide +kernel)]; kernel_rfl) | (rw [if_neg (by decide +kernel)]; exact ⟨rfl, rfl⟩))
    (fun os started H enc _ => lifted os started H enc)
#print axioms diskNobody_holds
end Go.Proofs.Ytjgbmkmkhngddaa.rowDiskNobody
