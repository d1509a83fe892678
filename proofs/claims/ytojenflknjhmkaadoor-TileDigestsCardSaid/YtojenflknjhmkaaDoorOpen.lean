/- Arguments opened: what a reading of an argument says of memory. No condition. -/
import Derived.Test.YtojenflknjhmkaaDoorByt
import Derived.ProofKit
import Derived.OpenShut
import Derived.SizedLaws
import Derived.Lib.SmallJoins
import Derived.Deep.Slices
import Derived.ShutString
namespace Go.Proofs.YtojenflknjhmkaaDoor.Opn
open Go Go.RowKit Go.Proofs.YtojenflknjhmkaaDoor.Cop Go.ChangeShapes Go.WideShapes Go.ChangeAt
open Go.ChangeMaps (open_string shut_string)
set_option linter.unusedVariables false
set_option linter.unusedSimpArgs false

theorem own : ownKnob Tryd.prog.godebug = none := by kernel_rfl
theorem laidOut : laidOutB Tryd.prog = true := by kernel_rfl

section
variable {H : Type} {enc : TypeId × Value → H} {W : World}

theorem wf_int {k : IntKind} {n : Int} (h : (Lit.int k n).wf = true) : k.min ≤ n ∧ n ≤ k.max := by
  simpa [Lit.wf] using h
theorem wf_i64 {n : Int} (h : (Lit.int .i64 n).wf = true) : -9223372036854775808 ≤ n ∧ n ≤ 9223372036854775807 := by
  have := wf_int h; simpa [IntKind.min, IntKind.max, IntKind.signed, IntKind.bits] using this
theorem wf_u64 {n : Int} (h : (Lit.int .u64 n).wf = true) : ∃ x : Nat, n = (x : Int) ∧ x < 18446744073709551616 := by
  have := wf_int h
  simp only [IntKind.min, IntKind.max, IntKind.signed, IntKind.bits] at this
  simp at this
  obtain ⟨x, rfl⟩ := Int.eq_ofNat_of_zero_le this.1
  exact ⟨x, rfl, by omega⟩
theorem wf_u32 {n : Int} (h : (Lit.int .u32 n).wf = true) : ∃ x : Nat, n = (x : Int) ∧ x < 4294967296 := by
  have := wf_int h
  simp only [IntKind.min, IntKind.max, IntKind.signed, IntKind.bits] at this
  simp at this
  obtain ⟨x, rfl⟩ := Int.eq_ofNat_of_zero_le this.1
  exact ⟨x, rfl, by omega⟩
theorem wf_u8 {n : Int} (h : (Lit.int .u8 n).wf = true) : ∃ x : UInt8, n = (x.toNat : Int) := by
  have := wf_int h
  simp only [IntKind.min, IntKind.max, IntKind.signed, IntKind.bits] at this
  simp at this
  obtain ⟨x, rfl⟩ := Int.eq_ofNat_of_zero_le this.1
  refine ⟨UInt8.ofNat x, ?_⟩
  rw [UInt8.toNat_ofNat']
  omega

/-- Numbers that are bytes. -/
theorem bytes_of (zs : List Int) (h : ∀ n ∈ zs, (Lit.int .u8 n).wf = true) : ∃ bs : List UInt8, zs.map (Value.int .u8) = bcs bs ∧ bs.length = zs.length := by
  induction zs with
  | nil => exact ⟨[], rfl, rfl⟩
  | cons z zs ih =>
    obtain ⟨bs, h1, h2⟩ := ih (fun n hn => h n (by simp [hn]))
    obtain ⟨b, rfl⟩ := wf_u8 (h z (by simp))
    exact ⟨b :: bs, by simp [bcs] at h1 ⊢; exact h1, by simp [h2]⟩

theorem cells8 : Tryd.prog.cellsOf 5 = 1 := by kernel_rfl
theorem bytes8 : Tryd.prog.bytesOf 5 = 1 := by kernel_rfl

set_option maxRecDepth 100000 in
/-- An argument that is a slice of bytes. -/
theorem open_bytes {base : Nat} {v : Value} {d : DataW H} {p : List MemPlace} (hval : Value.okWide Tryd.prog W .any base 22 v) (h : DataW.Trod enc Tryd.prog W 0 (fun _ => true) true 22 v d p)
    (hsz : ∀ elems spare, d = .slice elems spare → (elems.length + spare.length) * Tryd.prog.bytesOf 5 ≤ reachBytes) : ∃ bs : List UInt8, Oct.Rd W v bs ∧ bs.length ≤ 140737488351232 := by
  obtain ⟨a0, len, cap, rfl⟩ := okWide_slice Tryd.underlying22 hval
  obtain ⟨fuel, hf⟩ := h
  rcases open_ints Tryd.underlying22 Tryd.underlying5 cells8 hf with ⟨hcs, _⟩ | ⟨x, l, c, zs, hcs, _, hl, hm, hz, hx, hcell, hwz⟩
  · simp [Value.cells] at hcs
    obtain ⟨rfl, rfl, rfl⟩ := hcs
    exact ⟨[], Row.nil W, Nat.zero_le _⟩
  · simp [Value.cells] at hcs
    obtain ⟨rfl, rfl, rfl⟩ := hcs
    simp only [if_true] at hz
    simp only [Prod.mk.injEq] at hx
    have hs := hsz _ _ hx.1
    rw [bytes8] at hs
    simp only [lits, List.length_map, List.length_take, List.length_drop, reachBytes] at hs
    obtain ⟨bs, h1, h2⟩ := bytes_of (zs.take len) (fun n hn => hwz n (List.mem_of_mem_take hn))
    have h3 : bs.length = len := by rw [h2, List.length_take]; omega
    refine ⟨bs, ⟨some x, cap, by rw [h3], by rw [h3]; exact hl, hm, (fun h => by cases h), (fun ad had j u hu => ?_)⟩, by omega⟩
    cases had
    rw [← h1] at hu
    have hj : j < len := by
      have := (List.getElem?_eq_some_iff.1 hu).1
      simp at this; omega
    rw [hcell j (by omega)]
    rw [← hu]
    simp [hj, List.getElem?_eq_getElem (show j < zs.length by omega)]

/-- The cells of an array of bytes. -/
theorem bytes_of_array {t e : TypeId} {n fuel : Nat} {cs : List Value} {x : DataW H × List MemPlace} {w : World} {base : Nat} {spare : Nat → Bool} {held : Bool} (ht : Tryd.prog.underlying t = some (.array n e)) (he : Tryd.prog.underlying e = some (.int .u8)) (h1 : Tryd.prog.cellsOf e = 1) (hn : Tryd.prog.cellsOf t = n)
    (h : DataW.trod enc Tryd.prog w base spare held fuel t cs = some x) : ∃ d : List UInt8, cs = bcs d ∧ d.length = n := by
  obtain ⟨xs, m, rfl, _, hl, hxl, hel⟩ := DataW.trod_array ht h
  rw [hn] at hl
  have each : ∀ i, i < n → ∃ b : UInt8, cs[i]? = some (u8c b) := by
    intro i hi
    have hq := hel i hi
    rw [h1, Nat.mul_one, List.getElem?_eq_getElem (by omega)] at hq
    obtain ⟨z, hz, _, hw⟩ := DataW.trod_int he hq
    obtain ⟨b, rfl⟩ := wf_u8 hw
    refine ⟨b, ?_⟩
    have : ((cs.drop i).take 1)[0]? = some (u8c b) := by rw [hz]; rfl
    simpa using this
  obtain ⟨f, hf⟩ := Deep.choose_lt each
  refine ⟨(List.range n).map f, ?_, by simp⟩
  apply List.ext_getElem?
  intro i
  by_cases hi : i < n
  · rw [hf i hi]; simp [bcs, hi]
  · rw [List.getElem?_eq_none (by omega), List.getElem?_eq_none (by simp [bcs]; omega)]

theorem cellsD : Tryd.prog.cellsOf 24 = 32 := by kernel_rfl
set_option maxRecDepth 100000 in
/-- An argument that is a digest. -/
theorem open_digest {base : Nat} {v : Value} {d : DataW H} {p : List MemPlace} (hval : Value.okWide Tryd.prog W .any base 24 v) (h : DataW.Trod enc Tryd.prog W 0 (fun _ => true) true 24 v d p) :
    ∃ ds : List UInt8, v = dg ds ∧ ds.length = 32 := by
  simp only [Value.okWide, Tryd.underlying24] at hval
  obtain ⟨cs, rfl, hsz, _⟩ := hval
  obtain ⟨fuel, hf⟩ := h
  obtain ⟨ds, h1, h2⟩ := bytes_of_array Tryd.underlying24 Tryd.underlying5 cells8 cellsD hf
  refine ⟨ds, ?_, h2⟩
  have e : cs = (bcs ds).toArray := by rw [← h1]; simp [Value.cells]
  rw [e]
end
end Go.Proofs.YtojenflknjhmkaaDoor.Opn
