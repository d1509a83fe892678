/- A struct of one-cell fields, opened field by field. -/
import Derived.Lib.SmallJoins
import Derived.Test.YtjgbmkmkhngddaaGreatDoorOpen
namespace Go.Proofs.YtjgbmkmkhngddaaGreatDoor.Opn
open Go.ChangeShapes Go.WideShapes Go.ChangeAt Go.RowKit Go.Joins Go.Deep
set_option linter.unusedVariables false
theorem open_fields {P : Program} {w : World} {H : Type} {enc : TypeId × Value → H} {base : Nat} {spare : Nat → Bool} {held : Bool} {r : Reach} {b0 : Nat} {t : TypeId} {fs : Array Field} {v : Value} {d : DataW H} {p : List MemPlace} (hs : P.underlying t = some (.struct fs)) (hone : oneCellFields P fs = true) (hC : P.cellsOf t = fs.size)
    (hv : Value.okWide P w r b0 t v) (h : DataW.Trod enc P w base spare held t v d p) :
    ∃ cs : Array Value, v = .agg cs ∧ cs.size = fs.size ∧ ∀ (i : Nat) (f : Field) (c : Value), fs[i]? = some f → cs[i]? = some c → ∃ n y, DataW.trod enc P w base spare held n f.type [c] = some y := by
  obtain ⟨cs, rfl, hsz⟩ := okWide_struct hs hv
  obtain ⟨fuel, hf⟩ := h
  obtain ⟨xs, n, _, _, hl, hlen, hg⟩ := DataW.trod_struct hs hf
  refine ⟨cs, rfl, hsz.trans hC, fun i f c hfi hci => ?_⟩
  obtain ⟨o, k⟩ := hone_of hone i f hfi
  have hi : i < fs.size := (Array.getElem?_eq_some_iff.1 hfi).1
  have hx := hg i f hfi
  rw [o, k] at hx
  have e : ((Value.agg cs).cells.toList.drop i).take 1 = [c] := by
    have hlt : i < cs.size := by omega
    have hc : cs[i] = c := by rw [Array.getElem?_eq_getElem hlt] at hci; exact Option.some.inj hci
    simp only [Value.cells]
    rw [List.drop_eq_getElem_cons (by simpa using hlt)]
    simp [hc]
  rw [e, List.getElem?_eq_getElem (by omega)] at hx
  exact ⟨n, _, hx⟩
theorem array6 {α : Type} {cs : Array α} (h : cs.size = 6) : ∃ c0 c1 c2 c3 c4 c5, cs = #[c0, c1, c2, c3, c4, c5] := by
  obtain ⟨l⟩ := cs
  match l, h with
  | [c0, c1, c2, c3, c4, c5], _ => exact ⟨c0, c1, c2, c3, c4, c5, rfl⟩
end Go.Proofs.YtjgbmkmkhngddaaGreatDoor.Opn
