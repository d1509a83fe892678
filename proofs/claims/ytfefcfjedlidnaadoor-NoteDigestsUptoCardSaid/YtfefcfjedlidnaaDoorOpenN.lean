/- Bytes that came in, under a bound on what is read. -/
import Derived.Test.YtfefcfjedlidnaaDoorOpen
import Derived.Test.YtfefcfjedlidnaaDoorRows
namespace Go.Proofs.YtfefcfjedlidnaaDoor.Opn
open Go Go.ChangeShapes Go.WideShapes Go.ChangeAt Go.RowKit Go.Joins Go.Proofs.YtfefcfjedlidnaaDoor.Cop
set_option linter.unusedVariables false
set_option linter.unusedSimpArgs false
variable {H : Type} {enc : TypeId × Value → H} {W : World}

set_option maxRecDepth 100000 in
theorem open_bytes_le (N : Nat) {base : Nat} {v : Value} {d : DataW H} {p : List MemPlace} (hval : Value.okWide Tryd.prog W .any base 24 v) (h : DataW.Trod enc Tryd.prog W 0 (fun _ => true) true 24 v d p)
    (hsz : ∀ elems spare, d = .slice elems spare → elems.length + spare.length ≤ N) : ∃ bs : List UInt8, Oct.Rd W v bs ∧ bs.length ≤ N := by
  obtain ⟨a0, len, cap, rfl⟩ := okWide_slice Tryd.underlying24 hval
  obtain ⟨fuel, hf⟩ := h
  rcases open_ints Tryd.underlying24 Tryd.underlying5 cells8 hf with ⟨hcs, _⟩ | ⟨x, l, c, zs, hcs, _, hl, hm, hz, hx, hcell, hwz⟩
  · simp [Value.cells] at hcs
    obtain ⟨rfl, rfl, rfl⟩ := hcs
    exact ⟨[], Row.nil W, Nat.zero_le _⟩
  · simp [Value.cells] at hcs
    obtain ⟨rfl, rfl, rfl⟩ := hcs
    simp only [if_true] at hz
    simp only [Prod.mk.injEq] at hx
    have hs := hsz _ _ hx.1
    simp only [lits, List.length_map, List.length_take, List.length_drop] at hs
    obtain ⟨bs, h1, h2⟩ := bytes_of (zs.take len) (fun n hn => hwz n (List.mem_of_mem_take hn))
    have h3 : bs.length = len := by rw [h2, List.length_take]; omega
    refine ⟨bs, ⟨some x, cap, by rw [h3], by rw [h3]; exact hl, hm, (fun h => by cases h), (fun ad had j u hu => ?_)⟩, by omega⟩
    cases had
    rw [← h1] at hu
    have hj : j < len := by
      have := (List.getElem?_eq_some_iff.1 hu).1
      simp at this; omega
    rw [hcell j (by omega)]
    rw [← hu]
    simp [hj, List.getElem?_eq_getElem (show j < zs.length by omega)]
/-! What the bound gives. -/
theorem bulk_one {H : Type} (d : DataW H) : 1 ≤ Rows.uptoBulk d := by
  cases d with
  | lit l => cases l <;> simp [Rows.uptoBulk]
  | _ => simp [Rows.uptoBulk]
theorem bulk_part {H : Type} {d : DataW H} {l : List (DataW H)} (h : d ∈ l) : Rows.uptoBulk d ≤ Rows.uptoBulkAll l := by
  induction l with
  | nil => cases h
  | cons x r ih =>
    simp only [Rows.uptoBulkAll]
    rcases List.mem_cons.1 h with e | e
    · subst e; omega
    · have := ih e; omega
theorem bulk_length {H : Type} (l : List (DataW H)) : l.length ≤ Rows.uptoBulkAll l := by
  induction l with
  | nil => simp [Rows.uptoBulkAll]
  | cons x r ih => have := bulk_one x; simp only [Rows.uptoBulkAll, List.length_cons]; omega
theorem bulk_slice {H : Type} {l : List (DataW H)} (hk : Rows.uptoSmall H l = true) {elems spare : List (DataW H)} (h : DataW.slice elems spare ∈ l) : elems.length + spare.length ≤ 1048576 := by
  have hb : Rows.uptoBulkAll l ≤ 1048576 := of_decide_eq_true hk
  have h0 := bulk_part h
  have h1 := bulk_length elems
  have h2 := bulk_length spare
  simp only [Rows.uptoBulk] at h0
  omega
theorem bulk_string {H : Type} {l : List (DataW H)} (hk : Rows.uptoSmall H l = true) {bytes : List UInt8} (h : DataW.lit (.string bytes) ∈ l) : bytes.length ≤ 1048576 := by
  have hb : Rows.uptoBulkAll l ≤ 1048576 := of_decide_eq_true hk
  have h0 := bulk_part h
  simp only [Rows.uptoBulk] at h0
  omega
end Go.Proofs.YtfefcfjedlidnaaDoor.Opn
