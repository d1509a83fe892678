/- A proof as an argument, opened; the words' variable out of a row's list. -/
import Derived.Test.YtfefcfjedlidnaaDoorOpen
import Derived.Test.YtfefcfjedlidnaaDoorWirT
import Derived.Deep.Slices
import Derived.Test.YtfefcfjedlidnaaDoorRows
import Derived.Lib.LaidTab
import Derived.Lib.LaidU8T
import Derived.MakeChecks
namespace Go.Proofs.YtfefcfjedlidnaaDoor.Opn
open Go Go.RowKit Go.Proofs.YtfefcfjedlidnaaDoor.Cop Go.ChangeShapes Go.WideShapes Go.ChangeAt Go.Joins Go.Deep
set_option linter.unusedVariables false
set_option linter.unusedSimpArgs false
theorem bytesD : Tryd.prog.bytesOf 28 = 32 := by kernel_rfl
set_option maxRecDepth 100000 in
theorem open_ds {H : Type} {enc : TypeId × Value → H} {W : World} {base fuel : Nat} {spare : Nat → Bool} {held : Bool} {v : Value} {x : DataW H × List MemPlace} (h : DataW.trod enc Tryd.prog W base spare held fuel 74 [v] = some x) :
    ∃ ds : List (List UInt8), Dsl.Ds W v ds ∧ (x.1 = .nil ∧ ds = [] ∨ ∃ elems sp, x.1 = .slice elems sp ∧ ds.length = elems.length) := by
  rcases open_slice Tryd.underlying74 h with ⟨hcs, hx⟩ | ⟨a, len, cap, m, n', D, Pl, hcs, _, hl, hcm, hm, hx, hi⟩
  · injection hcs with hcs _
    subst hcs
    exact ⟨[], ⟨Row.nil W, fun d hd => by cases hd⟩, .inl ⟨by rw [hx], rfl⟩⟩
  · injection hcs with hcs _
    subst hcs
    have hml : len ≤ m := by rw [hm]; split <;> omega
    have each : ∀ i, i < len → ∃ d : List UInt8, d.length = 32 ∧ ∀ j u, (bcs d)[j]? = some u → W.cell? ((a.add (i * 32)).add j) = some u := by
      intro i hil
      obtain ⟨cs', hc, ht⟩ := hi i (by omega)
      obtain ⟨d, rfl, hd⟩ := bytes_of_array Tryd.underlying28 Tryd.underlying5 cells8 cellsD ht
      obtain ⟨_, hcl, hat⟩ := World.cells?_some hc
      refine ⟨d, hd, fun j u hu => ?_⟩
      have hj : j < (bcs d).length := (List.getElem?_eq_some_iff.1 hu).1
      have := hat j (by rw [cellsD, ← hd, ← bcs_length]; exact hj)
      rw [cellsD] at this
      rw [this, hu]
    obtain ⟨f, hf⟩ := Deep.choose_lt each
    refine ⟨(List.range len).map f, ⟨⟨some a, cap, by simp, by simpa using hl, hcm, (fun e => by cases e), ?_⟩, ?_⟩, .inr ⟨_, _, by rw [hx], by simp⟩⟩
    · intro ad had j u hu
      cases had
      have h32 : Dsl.All32 ((List.range len).map f) := by
        intro d hd
        obtain ⟨i, hi', rfl⟩ := List.mem_map.1 hd
        exact (hf i (List.mem_range.1 hi')).1
      have hlen := Dsl.dcs_len _ h32
      have hj : j < (Dsl.dcs ((List.range len).map f)).length := (List.getElem?_eq_some_iff.1 hu).1
      rw [hlen] at hj
      simp only [List.length_map, List.length_range] at hj
      have hq : j / 32 < len := by omega
      have hat := Dsl.dcs_at ((List.range len).map f) (j / 32) (by simpa using hq) h32
      have e1 : (bcs (f (j / 32)))[j % 32]? = some u := by
        have e2 : ((List.range len).map f)[j / 32]'(by simpa using hq) = f (j / 32) := by simp
        rw [← e2, ← hat, List.getElem?_take, if_pos (by omega), List.getElem?_drop, show j / 32 * 32 + j % 32 = j by omega]
        exact hu
      have := (hf (j / 32) hq).2 _ _ e1
      rwa [show (a.add (j / 32 * 32)).add (j % 32) = a.add j from by
        rw [show a.add j = a.add (j / 32 * 32 + j % 32) by rw [show j / 32 * 32 + j % 32 = j by omega]]
        unfold Addr.add; by_cases ha : j / 32 * 32 = 0 <;> by_cases hb : j % 32 = 0 <;> simp [ha, hb, Nat.add_assoc]] at this
    · intro d hd
      obtain ⟨i, hi', rfl⟩ := List.mem_map.1 hd
      exact (hf i (List.mem_range.1 hi')).1
theorem weights_head {H : Type} {P : Program} {t : TypeId} {ts : List TypeId} {d : DataW H} {r : List (DataW H)} {q : Nat → Bool} (h : (DataW.weightsEach P (t :: ts) (d :: r)).all q = true) : (d.weights P t).all q = true := by
  simp only [DataW.weightsEach, List.all_append, Bool.and_eq_true] at h
  exact h.1
set_option maxRecDepth 100000 in
theorem open_pr {H : Type} {enc : TypeId × Value → H} {W : World} {base : Nat} {v : Value} {d : DataW H} {p : List MemPlace} (hval : Value.okWide Tryd.prog W .any base 76 v) (h : DataW.Trod enc Tryd.prog W 0 (fun _ => true) true 76 v d p)
    (hw : (DataW.weights Tryd.prog 76 d).all (· ≤ reachBytes) = true) :
    ∃ (k f s : Int) (vp : Value) (ds : List (List UInt8)), v = Wir.prV k f s vp ∧ Dsl.Ds W vp ds ∧ ds.length * 32 ≤ 140737488355328 := by
  have hc : Tryd.prog.cellsOf 76 = 4 := by kernel_rfl
  have hu : Tryd.prog.underlying 76 = some (.struct (Tryd.prog.fieldsOf 76)) := by kernel_rfl
  have hf : Tryd.prog.fieldsOf 76 = #[⟨"Kind", 3, 0, false, "", "", 0⟩, ⟨"First", 3, 1, false, "", "", 8⟩, ⟨"Size", 3, 2, false, "", "", 16⟩, ⟨"Path", 74, 3, false, "", "", 24⟩] := by kernel_rfl
  rw [hf] at hu
  obtain ⟨cs, rfl, hsz⟩ := okWide_struct hu hval
  obtain ⟨fuel, hfu⟩ := h
  obtain ⟨xs, n, _, hy, hl, hlen, hg⟩ := DataW.trod_struct hu hfu
  have g0 := hg 0 ⟨"Kind", 3, 0, false, "", "", 0⟩ rfl
  have g1 := hg 1 ⟨"First", 3, 1, false, "", "", 8⟩ rfl
  have g2 := hg 2 ⟨"Size", 3, 2, false, "", "", 16⟩ rfl
  have g3 := hg 3 ⟨"Path", 74, 3, false, "", "", 24⟩ rfl
  dsimp only at g0 g1 g2 g3
  have k0 : Tryd.prog.cellsOf 3 = 1 := by kernel_rfl
  have k3 : Tryd.prog.cellsOf 74 = 1 := by kernel_rfl
  rw [k0] at g0 g1 g2
  rw [k3] at g3
  rw [hc] at hsz
  obtain ⟨l⟩ := cs
  match l, hsz with
  | [a, b, c, e], hsz =>
    match xs, hlen with
    | [x0, x1, x2, x3], hlen =>
      simp only [Value.cells, List.drop_succ_cons, List.drop_zero, List.take_succ_cons, List.take_zero, List.getElem?_cons_zero, List.getElem?_cons_succ] at g0 g1 g2 g3
      obtain ⟨m0, e0, _, _⟩ := DataW.trod_int Tryd.underlying3 g0
      obtain ⟨m1, e1, _, _⟩ := DataW.trod_int Tryd.underlying3 g1
      obtain ⟨m2, e2, _, _⟩ := DataW.trod_int Tryd.underlying3 g2
      obtain ⟨ds, hds, hx⟩ := open_ds g3
      simp at e0 e1 e2
      subst e0 e1 e2
      refine ⟨m0, m1, m2, e, ds, rfl, hds, ?_⟩
      rcases hx with ⟨_, rfl⟩ | ⟨elems, sp, hx, hlx⟩
      · simp
      · simp only [Prod.mk.injEq] at hy
        obtain ⟨hy, _⟩ := hy
        subst hy
        have h0 : (elems.length + sp.length) * 32 ≤ reachBytes := by
          simp only [DataW.weights, hu, List.map_cons, List.map_nil, List.toList_toArray, DataW.weightsEach, hx, Tryd.underlying74, bytesD, List.all_append, List.all_cons, Bool.and_eq_true, decide_eq_true_eq] at hw
          exact hw.2.2.2.1.1
        unfold reachBytes at h0
        omega
open Go.Lib in
theorem kinds_reads {W : World} (h : VarReads Tryd.prog W "coppice/wire.kinds" Rows.laid_coppice_wire_kinds) : Wir.Kinds W := by
  have hg : Tryd.prog.globalNamed "coppice/wire.kinds" = some 0 := by kernel_rfl
  have ht : (Tryd.prog.globals[0]?).map (·.type) = some 143 := by kernel_rfl
  obtain ⟨g', t', cs, fuel, p, hg', ht', hvar, hd⟩ := h
  obtain rfl := Option.some.inj (hg.symm.trans hg')
  obtain rfl := Option.some.inj (ht.symm.trans ht')
  obtain ⟨xs, m, _, hx, hl, hxl, hel⟩ := DataW.trod_array Tryd.underlying143 hd
  have hcS : Tryd.prog.cellsOf 9 = 1 := by kernel_rfl
  have hcK : Tryd.prog.cellsOf 143 = 3 := by kernel_rfl
  rw [hcS] at hel
  rw [hcK] at hl
  obtain ⟨l⟩ := cs
  match l, hl with
  | [a, b, c], hl =>
    match xs, hxl with
    | [x0, x1, x2], hxl =>
      have g0 := hel 0 (by decide)
      have g1 := hel 1 (by decide)
      have g2 := hel 2 (by decide)
      simp only [Nat.zero_mul, Nat.one_mul, Nat.mul_one, List.drop_succ_cons, List.drop_zero, List.take_succ_cons, List.take_zero, List.getElem?_cons_zero, List.getElem?_cons_succ] at g0 g1 g2
      obtain ⟨s0, e0, q0, _⟩ := DataW.trod_string Tryd.underlying9 g0
      obtain ⟨s1, e1, q1, _⟩ := DataW.trod_string Tryd.underlying9 g1
      obtain ⟨s2, e2, q2, _⟩ := DataW.trod_string Tryd.underlying9 g2
      injection e0 with e0 _
      injection e1 with e1 _
      injection e2 with e2 _
      subst e0 e1 e2 q0 q1 q2
      simp only [Prod.mk.injEq, List.map_cons, List.map_nil] at hx
      have hx := hx.1
      unfold Rows.laid_coppice_wire_kinds at hx
      injection hx with hx
      injection hx with h0 hx
      injection hx with h1 hx
      injection hx with h2 hx
      injection h0 with h0
      injection h1 with h1
      injection h2 with h2
      injection h0 with h0
      injection h1 with h1
      injection h2 with h2
      intro k hk
      have hc := World.var?_cell hg hvar k
      rw [hc]
      have t0 : s0 = str [] := by rw [str, h0]
      have t1 : s1 = str (Wir.wordL 1) := by rw [str, Wir.wordL, if_pos rfl, h1]
      have t2 : s2 = str (Wir.wordL 2) := by rw [str, Wir.wordL, if_neg (by decide), h2]
      subst t0 t1 t2
      rcases (show k = 0 ∨ k = 1 ∨ k = 2 by omega) with rfl | rfl | rfl <;> rfl
end Go.Proofs.YtfefcfjedlidnaaDoor.Opn
