/- A checkpoint as an argument, opened; the tables out of a row's list. -/
import Derived.Test.YtfefcfjedlidnaaDoorOpen
namespace Go.Proofs.YtfefcfjedlidnaaDoor.Opn
open Go Go.RowKit Go.Proofs.YtfefcfjedlidnaaDoor.Cop Go.ChangeShapes Go.WideShapes Go.ChangeAt Go.Joins Go.Deep
set_option linter.unusedVariables false
set_option maxRecDepth 100000 in
theorem open_ck {H : Type} {enc : TypeId × Value → H} {W : World} {base : Nat} {v : Value} {d : DataW H} {p : List MemPlace} (hval : Value.okWide Tryd.prog W .any base 51 v) (h : DataW.Trod enc Tryd.prog W 0 (fun _ => true) true 51 v d p) :
    ∃ (s : ByteArray) (n : Int) (ds : List UInt8), v = .agg (Value.string s :: Value.int .i64 n :: bcs ds).toArray ∧ ds.length = 32 ∧ -9223372036854775808 ≤ n ∧ n ≤ 9223372036854775807 := by
  have hc : Tryd.prog.cellsOf 51 = 34 := by kernel_rfl
  have hu : Tryd.prog.underlying 51 = some (.struct (Tryd.prog.fieldsOf 51)) := by kernel_rfl
  have hf : Tryd.prog.fieldsOf 51 = #[⟨"Origin", 9, 0, false, "", "", 0⟩, ⟨"Size", 3, 1, false, "", "", 16⟩, ⟨"Root", 28, 2, false, "", "", 24⟩] := by kernel_rfl
  rw [hf] at hu
  obtain ⟨cs, rfl, hsz⟩ := okWide_struct hu hval
  obtain ⟨fuel, hfu⟩ := h
  obtain ⟨xs, n, _, _, hl, hlen, hg⟩ := DataW.trod_struct hu hfu
  have g0 := hg 0 ⟨"Origin", 9, 0, false, "", "", 0⟩ rfl
  have g1 := hg 1 ⟨"Size", 3, 1, false, "", "", 16⟩ rfl
  have g2 := hg 2 ⟨"Root", 28, 2, false, "", "", 24⟩ rfl
  dsimp only at g0 g1 g2
  have k0 : Tryd.prog.cellsOf 9 = 1 := by kernel_rfl
  have k1 : Tryd.prog.cellsOf 3 = 1 := by kernel_rfl
  have k2 : Tryd.prog.cellsOf 28 = 32 := by kernel_rfl
  rw [k0] at g0
  rw [k1] at g1
  rw [k2] at g2
  rw [hc] at hsz
  obtain ⟨l⟩ := cs
  match l, hsz with
  | a :: b :: rest, hsz =>
    have hr : rest.length = 32 := by simpa using hsz
    simp only [Value.cells, List.drop_succ_cons, List.drop_zero, List.take_succ_cons, List.take_zero] at g0 g1 g2
    rw [List.take_of_length_le (by omega)] at g2
    rw [List.getElem?_eq_getElem (by rw [hlen]; decide)] at g0 g1 g2
    obtain ⟨s, e0, _⟩ := DataW.trod_string Tryd.underlying9 g0
    obtain ⟨m, e1, _, wf⟩ := DataW.trod_int Tryd.underlying3 g1
    obtain ⟨ds, e2, h2⟩ := bytes_of_array Tryd.underlying28 Tryd.underlying5 cells8 cellsD g2
    simp at e0 e1
    subst e0 e1 e2
    have wm := wf_i64 wf
    exact ⟨s, m, ds, rfl, h2, wm.1, wm.2⟩
end Go.Proofs.YtfefcfjedlidnaaDoor.Opn
