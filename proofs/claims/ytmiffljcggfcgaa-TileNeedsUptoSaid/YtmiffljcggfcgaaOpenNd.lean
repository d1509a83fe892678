/- A slice of structs of two ints that came in, under a bound on what is read. -/
import Derived.Test.YtmiffljcggfcgaaOpenN
import Derived.Deep.Slices
import Derived.Deep.Fields
import Derived.ChangeSame
import Derived.Test.YtmiffljcggfcgaaNeedL
namespace Go.Proofs.Ytmiffljcggfcgaa.Opn
open Go Go.ChangeShapes Go.WideShapes Go.ChangeAt Go.RowKit Go.Joins Go.Proofs.Ytmiffljcggfcgaa.Cop Go.Deep
set_option linter.unusedVariables false
set_option linter.unusedSimpArgs false
section
variable {H : Type} {enc : TypeId × Value → H} {P : Program} {w : World} {base : Nat} {spare : Nat → Bool} {held : Bool}
theorem open_slice_fields {t e : TypeId} {fs : Array Field} {fuel : Nat} {cs : List Value} {x : DataW H × List MemPlace} (ht : P.underlying t = some (.slice e)) (he : P.underlying e = some (.struct fs))
    (hone : oneCellFields P fs = true) (hC : P.cellsOf e = fs.size) (h : DataW.trod enc P w base spare held fuel t cs = some x) :
    (cs = [.slice none 0 0] ∧ x = (.nil, [])) ∨
    ∃ (a : Addr) (len cap m : Nat) (D : Nat → DataW H) (Pl : Nat → List MemPlace), cs = [.slice (some a) len cap] ∧ base ≤ a.block ∧ len ≤ cap ∧ cap ≤ maxLen ∧ m = (if spare a.block then cap else len) ∧
      x = (.slice ((List.range len).map D) ((List.range (m - len)).map fun j => D (len + j)), MemPlace.row a (m * fs.size) ++ (List.range m).flatMap Pl) ∧
      ∀ i, i < m → ∃ (ys : List (DataW H × List MemPlace)) (n : Nat), D i = .agg (ys.map (·.1)) ∧ Pl i = ys.flatMap (·.2) ∧ ys.length = fs.size ∧
        ∀ (j : Nat) (f : Field), fs[j]? = some f → ∃ (v : Value) (y : DataW H × List MemPlace), w.cell? (a.add (i * fs.size + j)) = some v ∧ ys[j]? = some y ∧ DataW.trod enc P w base spare held n f.type [v] = some y := by
  rcases open_slice ht h with h0 | ⟨a, len, cap, m, n, D, Pl, hcs, hb, hl, hm, hmm, hx, hi⟩
  · exact .inl h0
  · refine .inr ⟨a, len, cap, m, D, Pl, hcs, hb, hl, hm, hmm, by rw [hC] at hx; exact hx, fun i him => ?_⟩
    obtain ⟨cs', hc, ht'⟩ := hi i him
    rw [hC] at hc
    obtain ⟨ys, n', hn', hy, hlen, hyl, hf⟩ := DataW.trod_struct he ht'
    obtain ⟨_, hcl, hat⟩ := World.cells?_some hc
    simp only [Prod.mk.injEq] at hy
    refine ⟨ys, n', hy.1, hy.2, hyl, fun j f hj => ?_⟩
    obtain ⟨ho, hk⟩ := hone_of hone j f hj
    have hjl : j < fs.size := (Array.getElem?_eq_some_iff.1 hj).1
    have hcell := hat j hjl
    have hv : cs'[j]? = some (cs'[j]'(by omega)) := List.getElem?_eq_getElem (by omega)
    have h1 := hf j f hj
    rw [ho, hk] at h1
    have hone' : (cs'.drop j).take 1 = [cs'[j]'(by omega)] := by
      rw [List.drop_eq_getElem_cons (by omega)]
      rfl
    rw [hone'] at h1
    have hys : ys[j]? = some (ys[j]'(by omega)) := List.getElem?_eq_getElem (by omega)
    refine ⟨_, _, ?_, hys, h1.trans hys⟩
    rw [← Go.Deep.add_add, hcell, hv]
end
theorem flat_get : ∀ (L : List (Int × Int)) (i : Nat) (hi : i < L.length), (L.flatMap Til.ncl)[i * 2]? = some (.int .i64 L[i].1) ∧ (L.flatMap Til.ncl)[i * 2 + 1]? = some (.int .i64 L[i].2)
  | [], i, h => by simp at h
  | x :: L, 0, _ => by simp [Til.ncl]
  | x :: L, i + 1, h => by
    have := flat_get L i (by simpa using h)
    rw [List.flatMap_cons, show (i + 1) * 2 = i * 2 + 1 + 1 from by omega, show i * 2 + 1 + 1 + 1 = i * 2 + 1 + 1 + 1 from rfl]
    exact this
set_option maxRecDepth 100000 in
theorem open_nodes_le (N : Nat) {H : Type} {enc : TypeId × Value → H} {W : World} {base : Nat} {v : Value} {d : DataW H} {p : List MemPlace} (hval : Value.okWide Try.prog W .any base 33 v) (h : DataW.Trod enc Try.prog W 0 (fun _ => true) true 33 v d p)
    (hsz : ∀ elems spare, d = .slice elems spare → elems.length + spare.length ≤ N) : ∃ L : List (Int × Int), Row W v L.length (L.flatMap Til.ncl) ∧ L.length ≤ N := by
  obtain ⟨a0, len, cap, rfl⟩ := okWide_slice Try.underlying33 hval
  obtain ⟨fuel, hf⟩ := h
  have hu : Try.prog.underlying 23 = some (.struct (Try.prog.fieldsOf 23)) := by kernel_rfl
  rcases open_slice_fields Try.underlying33 hu (by kernel_rfl) (by kernel_rfl) hf with ⟨hcs, _⟩ | ⟨a, l, c, m, D, Pl, hcs, _, hl, hcm, hm, hx, hi⟩
  · simp [Value.cells] at hcs
    obtain ⟨rfl, rfl, rfl⟩ := hcs
    exact ⟨[], Row.nil W, Nat.zero_le _⟩
  · simp [Value.cells] at hcs
    obtain ⟨rfl, rfl, rfl⟩ := hcs
    simp only [Prod.mk.injEq] at hx
    have hs := hsz _ _ hx.1
    simp only [List.length_map, List.length_range] at hs
    have hml : len ≤ m := by rw [hm]; split <;> omega
    have hf2 : (Try.prog.fieldsOf 23).toList.map (fun f => (f.name, f.type, f.offset)) = [("Level", 3, 0), ("Index", 3, 1)] := by kernel_rfl
    have hfs : (Try.prog.fieldsOf 23).size = 2 := by kernel_rfl
    have ht0 : (Try.prog.fieldsOf 23)[0]?.map (·.type) = some 3 := by kernel_rfl
    have ht1 : (Try.prog.fieldsOf 23)[1]?.map (·.type) = some 3 := by kernel_rfl
    obtain ⟨f0, hf0, t0⟩ := Option.map_eq_some_iff.1 ht0
    obtain ⟨f1, hf1, t1⟩ := Option.map_eq_some_iff.1 ht1
    have hg : ∀ i, i < len → ∃ n : Int × Int, W.cell? (a.add (i * 2)) = some (.int .i64 n.1) ∧ W.cell? (a.add (i * 2 + 1)) = some (.int .i64 n.2) := by
      intro i hi'
      obtain ⟨ys, n, _, _, _, hfl⟩ := hi i (by omega)
      obtain ⟨v0, y0, c0, _, r0⟩ := hfl 0 f0 hf0
      obtain ⟨v1, y1, c1, _, r1⟩ := hfl 1 f1 hf1
      rw [t0] at r0
      rw [t1] at r1
      rw [hfs] at c0 c1
      obtain ⟨z0, e0, _, _⟩ := DataW.trod_int Try.underlying3 r0
      obtain ⟨z1, e1, _, _⟩ := DataW.trod_int Try.underlying3 r1
      simp at e0 e1
      subst e0 e1
      exact ⟨(z0, z1), c0, c1⟩
    let f : Nat → Int × Int := fun i => if h : i < len then Classical.choose (hg i h) else (0, 0)
    have hfv : ∀ i (h : i < len), W.cell? (a.add (i * 2)) = some (.int .i64 (f i).1) ∧ W.cell? (a.add (i * 2 + 1)) = some (.int .i64 (f i).2) := by
      intro i h
      have := Classical.choose_spec (hg i h)
      simp only [f, h, dif_pos]
      exact this
    clear_value f
    refine ⟨(List.range len).map f, ⟨some a, cap, by simp, by simpa using hl, hcm, (fun h => by cases h), ?_⟩, by simp; omega⟩
    intro ad had j u hu
    cases had
    have hjl : j < ((List.range len).map f).length * 2 := by
      rw [← Til.ncl_len]
      exact (List.getElem?_eq_some_iff.1 hu).1
    have hi2 : j / 2 < ((List.range len).map f).length := by omega
    have hi3 : j / 2 < len := by simpa using hi2
    obtain ⟨g0, g1⟩ := flat_get _ (j / 2) hi2
    obtain ⟨q0, q1⟩ := hfv (j / 2) hi3
    simp only [List.getElem_map, List.getElem_range] at g0 g1
    rcases Nat.mod_two_eq_zero_or_one j with hj | hj
    · have e : j / 2 * 2 = j := by omega
      rw [e] at g0 q0
      rw [g0] at hu
      injection hu with hu
      rw [q0, hu]
    · have e : j / 2 * 2 + 1 = j := by omega
      rw [e] at g1 q1
      rw [g1] at hu
      injection hu with hu
      rw [q1, hu]
end Go.Proofs.Ytmiffljcggfcgaa.Opn
