/- The law TileAlls: its walk. -/
import Derived.Test.YtmiffljcggfcgaaAllR
import Derived.Test.YtmiffljcggfcgaaAllK

import Derived.Test.YtmiffljcggfcgaaFn
import Derived.Test.YtmiffljcggfcgaaTilEq
namespace Go.Proofs.Ytmiffljcggfcgaa.Til
open Go Go.RowKit Go.Shelf Go.Proofs.Ytmiffljcggfcgaa.Cop Go.Proofs.Ytmiffljcggfcgaa.Chk
set_option linter.unusedVariables false
set_option linter.unusedSimpArgs false
attribute [local go_sem] Oper.semAt_some run_neq_tile
/-- Between two rounds; and where the loop is left. -/
def TI (C k : Nat) (w1 : World) (E : List (Nat × Nat)) (sv : Value) (pre : List (Nat × Nat)) (V : World) : Prop :=
  (∃ t, pre ++ t = E) ∧ pre.length ≤ k ∧ Blk V (C + 1) 3 [.int .i64 (pre.length : Int)] ∧ Blk V C 34 [sv] ∧ Below C w1 V ∧ C + 4 ≤ V.heap.size
def TX (C k : Nat) (w1 : World) (E : List (Nat × Nat)) (sv : Value) (c : Code) (pre : List (Nat × Nat)) (V : World) : Prop :=
  (c = .exit 0 ∧ (∃ t, pre ++ t = E) ∧ pre.length = k + 1 ∧ Blk V (C + 1) 3 [.int .i64 ((k : Int) + 1)] ∧ Blk V C 34 [sv] ∧ Below C w1 V ∧ C + 4 ≤ V.heap.size) ∨ (c = .ret ∧ ¬ ∃ t, pre ++ t = E)
/-- The round's own variable. -/
def TA (C : Nat) (h : Int) (m : Nat) (f : Nat → Act) (x : Nat × Nat) (a : Act) (V : World) : Prop := ∃ tb, C + 4 ≤ tb ∧ a = f tb ∧ Blk V tb 25 (tcs h m x)
theorem blk_own {V V' : World} {g : Nat} {t : TypeId} {cs : List Value} (hb : Blk V g t cs) {row : Option Nat} (hg : V.grownBy V' row) (hr : ∀ r, row = some r → ∃ o : Obj, V.heap[r]? = some o ∧ o.isCells = false) : Blk V' g t cs := by
  refine (hg.block g hb.lt (fun e => ?_)).trans hb
  obtain ⟨o, h1, h2⟩ := hr g e.symm
  rw [show V.heap[g]? = _ from hb] at h1
  injection h1 with h1
  subst h1
  cases h2
theorem results_cell1 {fn : Func} {t : Tmp} {ty : TypeId} (h : fn.results = #[.cell t ty]) (tmps : Array Value) (P : Program) (w : World) {p : Addr} {v : Value} (hp : tmps.getD t undef = .pointer (some p)) (hagg : ∀ w, (isAgg ty).run P w = .ok false w) (hc : w.cell? p = some v) :
    (results fn tmps).run P w = .ok v w := by
  rw [Array.getD_eq_getD_getElem?] at hp
  simp [results, h, hp, asAddr, loadVar, hagg w, hc]
theorem aggB (w : World) : (isAgg 4).run Try.prog w = .ok false w := by kernel_rfl
theorem put_block (W : World) (k j : Nat) (o : Obj) (h : j ≠ k) : (W.putObj k o).heap[j]? = W.heap[j]? := by
  simp [World.putObj, Array.getElem?_setIfInBounds, Ne.symm h]
theorem put_below {B k : Nat} {w W : World} (h : Below B w W) (hk : B ≤ k) (o : Obj) : Below B w (W.putObj k o) := by
  exact ⟨h.1, h.2, h.3, by simpa [World.putObj] using h.4, fun j hj => (put_block W k j o (by omega)).trans (h.5 j hj)⟩
theorem flat_at (h : Int) (m : Nat) : ∀ (T : List (Nat × Nat)) (q : Nat) (hq : q < T.length) (j : Nat), j < 4 → (T.flatMap (tcs h m))[q * 4 + j]? = (tcs h m T[q])[j]?
  | [], q, hq, _, _ => by simp at hq
  | x :: r, 0, _, j, hj => by
    rw [List.flatMap_cons, List.getElem?_append_left (by simp [tcs]; omega)]
    simp
  | x :: r, q + 1, hq, j, hj => by
    have hl : (tcs h m x).length = 4 := rfl
    rw [List.flatMap_cons, List.getElem?_append_right (by rw [hl]; omega), hl, show (q + 1) * 4 + j - 4 = q * 4 + j from by omega, flat_at h m r q (by simpa using hq) j hj]
    rfl
theorem set_from {B g : Nat} (h : g < B) (V : World) (o : Nat) (v : Value) : KeepsFrom B V (V.setCell ⟨g, o, none⟩ v) :=
  ⟨by simp [World.setCell], fun k o' hB hk _ => (Below.heap_setCell _ _ _ _ (by show k ≠ g; omega)).trans hk⟩
theorem alloc_from (B : Nat) (V : World) (o : Obj) : KeepsFrom B V (V.alloc o) :=
  ⟨by simp, fun k o' hB hk _ => (Lib.alloc_old V o k (Array.getElem?_eq_some_iff.1 hk).1).trans hk⟩
theorem set_blk {w : World} {g : Nat} {t : TypeId} {v : Value} (h : Blk w g t [v]) (v' : Value) : Blk (w.setCell ⟨g, 0, none⟩ v') g t [v'] := by
  unfold Blk at h ⊢
  simp [World.setCell, Array.getElem?_modify, h]
theorem set_keep {w : World} {g : Nat} {t : TypeId} {cs : List Value} (h : Blk w g t cs) (p : Addr) (v : Value) (hn : g ≠ p.block) : Blk (w.setCell p v) g t cs := by
  unfold Blk at h ⊢
  rw [Below.heap_setCell _ _ _ _ hn]; exact h
set_option maxRecDepth 100000 in
set_option maxHeartbeats 4000000 in
theorem alls_law (h n stop : Int) (w : World) (hn : -9223372036854775808 ≤ n ∧ n ≤ 9223372036854775807) (hs : -9223372036854775808 ≤ stop ∧ stop ≤ 9223372036854775807) :
    Calls Try.prog 6 #[.int .i64 h, .int .i64 n, .int .i64 stop] w fun e w' => e = .returned (.bool true) ∧ Below w.heap.size w w' := by
  obtain ⟨c, hc⟩ : ∃ c : Int, stop.tmod 500 = c := ⟨_, rfl⟩
  have hcb : -500 < c ∧ c < 500 := by
    rw [← hc]
    have h1 := Int.tmod_lt_of_pos stop (show (0 : Int) < 500 by omega)
    have h2 := Int.lt_tmod_of_pos stop (show (0 : Int) < 500 by omega)
    omega
  obtain ⟨k, hk⟩ : ∃ k : Nat, (c + 500).tmod 500 = (k : Int) := ⟨((c + 500).tmod 500).toNat, by rw [Int.tmod_eq_emod_of_nonneg (by omega)]; omega⟩
  have hk5 : k < 500 := by rw [Int.tmod_eq_emod_of_nonneg (by omega)] at hk; omega
  obtain ⟨E, hE⟩ : ∃ E, allT h n = E := ⟨_, rfl⟩
  obtain ⟨T, hT⟩ : ∃ T, E.take (k + 1) = T := ⟨_, rfl⟩
  have hra : ∀ w, Calls Try.prog 23 #[.int .i64 h, .int .i64 n, .int .i64 ((k : Int) + 1)] w fun e w' => ∃ v, e = .returned v ∧ OwnT w.heap.size w' h n.toNat v T ∧ Below w.heap.size w w' := fun w => by rw [← hT, ← hE]; exact rall_calls h n (k + 1) w hn (by omega) (by omega)
  have HRA := Lib.hid hra
  have HE := Lib.hid hE
  have HT := Lib.hid hT
  clear hra hE hT
  refine (callsIn_wide (n := 3)).1 ?_
  refine callsIn_of_wp_marks Try.func6 rfl trivial ?_ rfl
  simp only [Try.ntmps6, List.size_toArray, List.length_cons, List.length_nil, Nat.reduceAdd, Nat.reduceSub, Array.replicate_succ, Array.replicate_zero, List.push_toArray, List.append_toArray, List.nil_append, List.cons_append]
  gi_wp2_with (first | (refine ⟨trivial, ?_⟩; gi_at_call 23; refine (callsIn_wide.2 (HRA.out _)).mono ?_; rintro e w1 ⟨v, rfl, hv1, hb1⟩; obtain ⟨va, vc, rfl, _⟩ := Row.open (Row.of_own hv1)) | (refine ⟨trivial, ?_⟩; gi_at_call 24; refine (callsIn_wide.2 (all_calls h n _)).mono ?_; rintro e w2 ⟨rfl, rfl⟩) | ((with_reducible refine gateI (N := 25) rfl ?_); go_loud (refine wpI_eql_func (fun _ => trivial) rfl _ _ _ rfl Try.underlying49 rfl ?_)))
  -- LOOP
  obtain ⟨B, hB⟩ : ∃ B, w.heap.size = B := ⟨_, rfl⟩
  obtain ⟨C, hC⟩ : ∃ C, w1.heap.size = C := ⟨_, rfl⟩
  have hBC : B + 2 ≤ C := by
    have := hb1.size
    rw [World.size_alloc, World.size_alloc, hB, hC] at this
    omega
  have hx0 : Blk w1 B 4 [.bool false] := by
    rw [← hB]
    exact ((Blk.new w [.bool false] 4).below ((Below.refl _ _).alloc (Nat.le_refl _) (.cells #[.int .i64 (k : Int)] 3))).below hb1
  have hx1 : Blk w1 (B + 1) 3 [.int .i64 (k : Int)] := by
    rw [← hB]
    have h := (Blk.new (w.alloc (.cells #[.bool false] 4)) [.int .i64 (k : Int)] 3).below hb1
    rwa [World.size_alloc] at h
  have hbw1 : Below B w w1 := by
    rw [← hB]
    exact (((Below.refl _ w).alloc (Nat.le_refl _) _).alloc (by simp) _).trans (hb1.mono (by first | (simp; done) | (simp; omega)))
  have hrow1 : Row w1 (.slice va T.length vc) T.length (T.flatMap (tcs h n.toNat)) := Row.of_own hv1
  rw [hB, hC]
  obtain ⟨X, hXe⟩ : ∃ X, ((((w1.alloc (.cells #[.slice va T.length vc] 34)).alloc (.cells #[.int .i64 0] 3)).alloc (.cells #[.int .i64 h] 3)).alloc (.cells #[.int .i64 n] 3)) = X := ⟨_, rfl⟩
  have hXs : X.heap.size = C + 4 := by rw [← hXe, World.size_alloc, World.size_alloc, World.size_alloc, World.size_alloc, hC]
  have hXb : Below C w1 X := by rw [← hXe, ← hC]; exact ((((Below.refl _ w1).alloc (Nat.le_refl _) _).alloc (by simp) _).alloc (by first | (simp; done) | (simp; omega)) _).alloc (by first | (simp; done) | (simp; omega)) _
  have X2 : Blk X C 34 [.slice va T.length vc] := by
    rw [← hXe, ← hC]
    exact (Blk.new w1 [.slice va T.length vc] 34).below ((((Below.refl _ _).alloc (Nat.le_refl _) _).alloc (by simp) _).alloc (by first | (simp; done) | (simp; omega)) _)
  have X3 : Blk X (C + 1) 3 [.int .i64 0] := by
    rw [← hXe, ← hC]
    have h := (Blk.new (w1.alloc (.cells #[.slice va T.length vc] 34)) [.int .i64 0] 3).below (((Below.refl _ _).alloc (Nat.le_refl _) (.cells #[.int .i64 h] 3)).alloc (by simp) (.cells #[.int .i64 n] 3))
    rwa [World.size_alloc] at h
  have X4 : Blk X (C + 2) 3 [.int .i64 h] := by
    rw [← hXe, ← hC]
    have h := (Blk.new ((w1.alloc (.cells #[.slice va T.length vc] 34)).alloc (.cells #[.int .i64 0] 3)) [.int .i64 h] 3).below ((Below.refl _ _).alloc (Nat.le_refl _) (.cells #[.int .i64 n] 3))
    rwa [World.size_alloc, World.size_alloc] at h
  have X5 : Blk X (C + 3) 3 [.int .i64 n] := by
    rw [← hXe, ← hC]
    have h := Blk.new (((w1.alloc (.cells #[.slice va T.length vc] 34)).alloc (.cells #[.int .i64 0] 3)).alloc (.cells #[.int .i64 h] 3)) [.int .i64 n] 3
    rwa [World.size_alloc, World.size_alloc, World.size_alloc] at h
  rw [hXe, show C + 1 + 1 = C + 2 from rfl, show C + 2 + 1 = C + 3 from rfl]
  have HBW := Lib.hid hB
  have HV1 := Lib.hid hv1
  have HCW := Lib.hid hC
  have c4 := X4.cell 0
  have c5 := X5.cell 0
  rw [List.getElem?_cons_zero] at c4 c5
  have hst := all_stops (C + 2) (C + 3) h n hn X (by omega) (by omega) c4 c5
  rw [HE.out] at hst
  clear hXe hv1 hb1 hB hC c4 c5
  refine wpIn_rangeFunc_ownH rfl (by decide) (gf := 57) (lb := #[.pointer (some ⟨C + 2, 0, none⟩), .pointer (some ⟨C + 3, 0, none⟩)]) rfl trivial (enters_of Try.func57 (by kernel_rfl) rfl)
    hst (fun h k => h.trans k) ?hKb (Below.refl _ _) (fun _ => rfl)
    (TI C k w1 E (.slice va T.length vc)) (TX C k w1 E (.slice va T.length vc)) ?hI ?hIx ⟨⟨E, rfl⟩, Nat.zero_le _, X3, X2, hXb, by omega⟩
    (fun x a V => TA C h n.toNat (fun tb => { tmps := #[.int .i64 h, .int .i64 n, .int .i64 stop, undef, undef, undef, .pointer (some ⟨B, 0, none⟩), .pointer (some ⟨B + 1, 0, none⟩), .pointer (some ⟨C, 0, none⟩), .pointer (some ⟨C + 1, 0, none⟩), .func (.func 57) #[] #[.pointer (some ⟨C + 2, 0, none⟩), .pointer (some ⟨C + 3, 0, none⟩)], .pointer (some ⟨tb, 0, none⟩), .int .i64 stop, .int .i64 c, .int .i64 (c + 500), .int .i64 (k : Int), .int .i64 h, .int .i64 n, .int .i64 (k : Int), .int .i64 ((k : Int) + 1), .slice va T.length vc, .int .i64 h, .int .i64 n, .func (.func 57) #[] #[.pointer (some ⟨C + 2, 0, none⟩), .pointer (some ⟨C + 3, 0, none⟩)], .func (.func 57) #[] #[.pointer (some ⟨C + 2, 0, none⟩), .pointer (some ⟨C + 3, 0, none⟩)], .bool false, .func (.func 57) #[] #[.pointer (some ⟨C + 2, 0, none⟩), .pointer (some ⟨C + 3, 0, none⟩)], tileV h n.toNat x, undef, undef, undef, undef, undef, undef, undef, undef, undef, undef, undef, undef, undef, undef, undef, undef, undef, undef, undef, undef, undef], defers := [] }) x a V) ?hAx ?assign ?body ?done ?stop
  case hKb =>
    intro V l o o' hk ho hn' hw
    have hh := belowK_b (w := X) (n₀ := X.heap.size) (Nat.le_refl _) V l o o' hk ho hn' hw
    exact ⟨hh.block _ (by omega), hh.block _ (by omega)⟩
  case hI =>
    rintro pre V V' row ⟨p1, p2, p3, p4, p5, p6⟩ hg hr
    have hr2 := fun r e => (hr r e).2
    exact ⟨p1, p2, blk_own p3 hg hr2, blk_own p4 hg hr2, p5.grown hg (by omega) (fun r e => by have := (hr r e).1; omega), by have := hg.size; omega⟩
  case hIx =>
    rintro c' pre V V' row (⟨p0, p1, p2, p3, p4, p5, p6⟩ | hh) hg hr
    · have hr2 := fun r e => (hr r e).2
      exact .inl ⟨p0, p1, p2, blk_own p3 hg hr2, blk_own p4 hg hr2, p5.grown hg (by omega) (fun r e => by have := (hr r e).1; omega), by have := hg.size; omega⟩
    · exact .inr hh
  case hAx =>
    rintro x a' s V V' row ⟨tb, q1, q2, q3⟩ hg hr
    exact ⟨tb, q1, q2, blk_own q3 hg (fun r e => (hr r e).2)⟩
  case assign =>
    rintro l pre x V K ⟨p1, p2, p3, p4, p5, p6⟩ hK
    dsimp only [tileV]
    gi_wp2_with fail
    refine hK _ _ (alloc_from _ V _) ⟨Lib.alloc_old V _ _ (by omega), Lib.alloc_old V _ _ (by omega)⟩ ?_ ⟨V.heap.size, p6, rfl, Blk.new V (tcs h n.toNat x) 25⟩
    exact ⟨p1, p2, p3.below ((Below.refl _ _).alloc (Nat.le_refl _) _), p4.below ((Below.refl _ _).alloc (Nat.le_refl _) _), p5.alloc (by omega) _, by simp; omega⟩
  case body =>
    rintro l pre ⟨L, i⟩ a' V hl _ ⟨⟨t, ht⟩, p2, p3, p4, p5, p6⟩ ⟨tb, q1, rfl, q3⟩ hpl
    obtain ⟨n1, hn1⟩ : ∃ n1, pre.length = n1 := ⟨_, rfl⟩
    rw [hn1] at p2 p3 hpl
    have rowV : Row V (.slice va T.length vc) T.length (T.flatMap (tcs h n.toNat)) := hrow1.below (by rw [HCW.out]; exact p5)
    have b0 : Blk V B 4 [.bool false] := (p5.block B (by omega)).trans hx0
    have b1 : Blk V (B + 1) 3 [.int .i64 (k : Int)] := (p5.block (B + 1) (by omega)).trans hx1
    have k0 := b0.cell 0
    have f0 := b0.frozen 0
    have k1' := b1.cell 0
    have k3 := p3.cell 0
    have f3 := p3.frozen 0
    have k4 := p4.cell 0
    rw [List.getElem?_cons_zero] at k0 k1' k3 k4
    obtain ⟨t0, ht0⟩ : ∃ t0, tw h (over h L n.toNat) i = t0 := ⟨_, rfl⟩
    have e0 : V.cell? ⟨tb, 0, none⟩ = some (.int .i64 h) := by simpa [tcs] using q3.cell 0
    have e1 : V.cell? ⟨tb, 1, none⟩ = some (.int .i64 (L : Int)) := by simpa [tcs] using q3.cell 1
    have e2 : V.cell? ⟨tb, 2, none⟩ = some (.int .i64 (i : Int)) := by simpa [tcs] using q3.cell 2
    have e3 : V.cell? ⟨tb, 3, none⟩ = some (.int .i64 (t0 : Int)) := by rw [← ht0]; simpa [tcs] using q3.cell 3
    have hEn : E[n1]? = T[n1]? := by rw [← HT.out, List.getElem?_take, if_pos (by omega)]
    have hnx : ∀ y, (∃ t', (pre ++ [y]) ++ t' = E) ↔ E[n1]? = some y := by
      intro y
      constructor
      · rintro ⟨t', h'⟩
        rw [← h', List.append_assoc, List.getElem?_append_right (by omega), hn1, Nat.sub_self]; rfl
      · intro h'
        rw [← ht, List.getElem?_append_right (by omega), hn1, Nat.sub_self] at h'
        match t, h', ht with
        | [], h', _ => simp at h'
        | z :: t', h', ht =>
          simp at h'
          subst h'
          exact ⟨t', by rw [List.append_assoc]; exact ht⟩
    have hnxt := hnx (L, i)
    rw [hEn] at hnxt
    have hbad : ¬ T[n1]? = some (L, i) → KeepsFrom (C + 4) V (V.drew.setCell ⟨B, 0, none⟩ (.bool false)) ∧ TX C k w1 E (.slice va T.length vc) .ret (pre ++ [(L, i)]) (V.drew.setCell ⟨B, 0, none⟩ (.bool false)) :=
      fun hno => ⟨⟨by simp [World.setCell], fun q o' hB hk2 _ => (Below.heap_setCell V.drew _ _ _ (by show q ≠ B; omega)).trans hk2⟩, .inr ⟨rfl, fun h' => hno (hnxt.1 h')⟩⟩
    have HBAD := Lib.hid hbad
    have HNXT := Lib.hid hnxt
    have HT0 := Lib.hid ht0
    rw [hXs]
    clear hbad hnx hnxt hEn ht ht0 hst q3
    have hmix : Try.prog.follows .mixedOrders = true := by kernel_rfl
    dsimp only [tileV]
    by_cases hlt : n1 < T.length
    · have d2 : decide ((T.length : Int) ≤ (n1 : Int)) = false := decide_eq_false (by omega)
      have d2' : decide (T.length ≤ n1) = false := decide_eq_false (by omega)
      obtain ⟨⟨L2, i2⟩, hy⟩ : ∃ y, T[n1] = y := ⟨_, rfl⟩
      obtain ⟨g, rfl, hcl⟩ : ∃ g, va = some ⟨g, 0, none⟩ ∧ ∀ (j : Nat) (u : Value), j < 4 → (tcs h n.toNat (L2, i2))[j]? = some u → V.cell? ⟨g, n1 * 4 + j, none⟩ = some u := by
        rcases HV1.out.2 with ⟨hv, h0⟩ | ⟨g, cap, cur, hv, _, hg, _, _, _, htk⟩
        · omega
        · injection hv with v1 v2 v3
          refine ⟨g, v1, fun j u hj hu => ?_⟩
          have hgC : g < C := by rw [← HCW.out]; exact (Array.getElem?_eq_some_iff.1 hg).1
          have hgV : V.heap[g]? = some (.cells cur 25 (0, 0)) := (p5.block g hgC).trans hg
          have hfm := flat_at h n.toNat T n1 hlt j hj
          rw [hy, hu, ← htk, List.getElem?_take] at hfm
          split at hfm
          · rw [cell_of_row V g _ cur 25 _ hgV]
            simpa using hfm
          · cases hfm
      have x0 : V.cell? ⟨g, n1 * 4, none⟩ = some (.int .i64 h) := hcl 0 _ (by omega) rfl
      have x1 : V.cell? ⟨g, n1 * 4 + 1, none⟩ = some (.int .i64 (L2 : Int)) := hcl 1 _ (by omega) rfl
      have x2 : V.cell? ⟨g, n1 * 4 + 2, none⟩ = some (.int .i64 (i2 : Int)) := hcl 2 _ (by omega) rfl
      obtain ⟨t2, ht2⟩ : ∃ t2, tw h (over h L2 n.toNat) i2 = t2 := ⟨_, rfl⟩
      have x3 : V.cell? ⟨g, n1 * 4 + 3, none⟩ = some (.int .i64 (t2 : Int)) := by rw [← ht2]; exact hcl 3 _ (by omega) rfl
      have i1 : (n1 : Int) < (T.length : Int) := by omega
      have HT2 := Lib.hid ht2
      have HY := Lib.hid hy
      clear hcl ht2 hy
      by_cases hL : L = L2
      · subst hL
        by_cases hi : i = i2
        · subst hi
          have htt : t0 = t2 := by rw [← HT0.out, ← HT2.out]
          subst htt
          have hsome : T[n1]? = some (L, i) := by rw [List.getElem?_eq_getElem hlt, HY.out]
          have hok := HNXT.out.2 hsome
          have hbig : (n1 : Int) + 1 ≤ 1000 := by omega
          obtain ⟨V2, hV2⟩ : ∃ V2, V.drew.setCell ⟨C + 1, 0, none⟩ (.int .i64 ((n1 : Int) + 1)) = V2 := ⟨_, rfl⟩
          have g1 : Blk V2 (C + 1) 3 [.int .i64 ((n1 : Int) + 1)] := by rw [← hV2]; exact set_blk (w := V.drew) p3 _
          have g2 : Blk V2 C 34 [.slice (some ⟨g, 0, none⟩) T.length vc] := by rw [← hV2]; exact set_keep (w := V.drew) p4 _ _ (by show C ≠ C + 1; omega)
          have g3 : Below C w1 V2 := by rw [← hV2]; exact (p5.drew).setCell (p := ⟨C + 1, 0, none⟩) (by show C ≤ C + 1; omega) _
          have g4 : C + 4 ≤ V2.heap.size := by rw [← hV2]; simpa [World.setCell] using p6
          have g5 : KeepsFrom (C + 4) V V2 := by rw [← hV2]; exact ⟨by simp [World.setCell], fun q o' hB hk2 _ => (Below.heap_setCell V.drew _ _ _ (by show q ≠ C + 1; omega)).trans hk2⟩
          have g6 : Keep2 (C + 2) (C + 3) V V2 := by rw [← hV2]; exact ⟨Below.heap_setCell V.drew _ _ _ (by show C + 2 ≠ C + 1; omega), Below.heap_setCell V.drew _ _ _ (by show C + 3 ≠ C + 1; omega)⟩
          have g7 : Blk V2 (B + 1) 3 [.int .i64 (k : Int)] := (g3.block (B + 1) (by omega)).trans hx1
          have m1 := g1.cell 0
          have m2 := g7.cell 0
          rw [List.getElem?_cons_zero] at m1 m2
          by_cases hend : n1 = k
          · have hpost : TX C k w1 E (.slice (some ⟨g, 0, none⟩) T.length vc) (.exit 0) (pre ++ [(L, i)]) V2 :=
              .inl ⟨rfl, hok, by rw [List.length_append, hn1, hend]; rfl, by rw [← hend]; exact g1, g2, g3, g4⟩
            have HPOST := Lib.hid hpost
            have HG5 := Lib.hid g5
            have d5 : decide ((k : Int) < (n1 : Int) + 1) = true := decide_eq_true (by omega)
            clear hpost g1 g2 g3 g4 g5 g6 g7 hok hsome hend
            gi_wp2_with fail
            gi_region
            all_goals
              gi_wp2_with fail
              exact ⟨HG5.out, HPOST.out⟩
          · have hpost : TI C k w1 E (.slice (some ⟨g, 0, none⟩) T.length vc) (pre ++ [(L, i)]) V2 :=
              ⟨hok, by rw [List.length_append, hn1]; simp; omega, by rw [List.length_append, hn1]; exact g1, g2, g3, g4⟩
            have HPOST := Lib.hid hpost
            have HG5 := Lib.hid g5
            have HG6 := Lib.hid g6
            have d5 : decide ((k : Int) < (n1 : Int) + 1) = false := decide_eq_false (by omega)
            clear hpost g1 g2 g3 g4 g5 g6 g7 hok hsome hend
            gi_wp2_with fail
            gi_region
            all_goals
              gi_wp2_with fail
              exact ⟨HG5.out, HG6.out, HPOST.out⟩
        · have d3 : ((i : Int) == (i2 : Int)) = false := by simp; omega
          have hno : ¬ T[n1]? = some (L, i) := by
            rw [List.getElem?_eq_getElem hlt, HY.out]
            intro h'
            simp at h'
            exact hi h'.symm
          have HNO := Lib.hid (HBAD.out hno)
          clear hno
          gi_wp2_with fail
          gi_region
          all_goals
            gi_wp2_with fail
            exact HNO.out
      · have d3 : ((L : Int) == (L2 : Int)) = false := by simp; omega
        have hno : ¬ T[n1]? = some (L, i) := by
          rw [List.getElem?_eq_getElem hlt, HY.out]
          intro h'
          simp at h'
          exact hL h'.1.symm
        have HNO := Lib.hid (HBAD.out hno)
        clear hno
        gi_wp2_with fail
        gi_region
        all_goals
          gi_wp2_with fail
          exact HNO.out
    · have d2 : decide ((T.length : Int) ≤ (n1 : Int)) = true := decide_eq_true (by omega)
      have d2' : decide (T.length ≤ n1) = true := decide_eq_true (by omega)
      have hno : ¬ T[n1]? = some (L, i) := by rw [List.getElem?_eq_none (by omega)]; simp
      have HNO := Lib.hid (HBAD.out hno)
      clear hno
      gi_wp2_with fail
      gi_region
      all_goals
        gi_wp2_with fail
        exact HNO.out
  case done =>
    rintro Dn ys V hDn hys ⟨_, p2, p3, p4, p5, p6⟩ hdf
    have hTl : T.length = ys.length := by rw [← HT.out, List.length_take, hys]; rw [hys] at p2; omega
    rw [← hTl] at p3
    clear hys
    have b0 : Blk V B 4 [.bool false] := (p5.block B (by omega)).trans hx0
    have k0 := b0.cell 0
    have f0 := b0.frozen 0
    have k3 := p3.cell 0
    have k4 := p4.cell 0
    rw [List.getElem?_cons_zero] at k0 k3 k4
    obtain ⟨V2, hV2⟩ : ∃ V2, V.setCell ⟨B, 0, none⟩ (.bool true) = V2 := ⟨_, rfl⟩
    have g0 : Blk V2 B 4 [.bool true] := by rw [← hV2]; exact set_blk b0 _
    have gD : V2.heap[Dn]? = some (.deferred (some [])) := by rw [← hV2]; exact (Below.heap_setCell _ _ _ _ (by show Dn ≠ B; omega)).trans hdf
    have gB : Below B w V2 := by rw [← hV2]; exact (hbw1.trans (p5.mono (by omega))).setCell (p := ⟨B, 0, none⟩) (Nat.le_refl _) _
    have hcl : (V2.putObj Dn (.deferred none)).cell? ⟨B, 0, none⟩ = some (.bool true) := by
      rw [World.cell?_of_block (w := V2) (put_block V2 Dn B _ (by omega))]
      exact g0.cell 0
    have hres : ∀ (a : Array Value), a.getD 6 undef = .pointer (some ⟨B, 0, none⟩) → (results Try.f6 a).run Try.prog (V2.putObj Dn (.deferred none)) = .ok (.bool true) (V2.putObj Dn (.deferred none)) :=
      fun a ha => results_cell1 rfl a _ _ ha aggB hcl
    have HRES := Lib.hid hres
    have HGD := Lib.hid gD
    have HBF := Lib.hid (put_below gB (show B ≤ Dn by omega) (.deferred none))
    clear hres gD gB hcl g0 hst hbw1 p3 p4 p5 b0
    gi_wp2_with fail
    refine ⟨by simp, .inl ⟨_, _, rfl, run_takeDeferred HGD.out, ?_⟩⟩
    exact ⟨_, HRES.out _ rfl, rfl, by rw [HBW.out]; exact HBF.out⟩
  case stop =>
    rintro Dn c' pre V hDn ⟨t, ht⟩ hx hdf
    rcases hx with ⟨rfl, _, hpl, p3, p4, p5, p6⟩ | ⟨rfl, hno⟩
    · have b0 : Blk V B 4 [.bool false] := (p5.block B (by omega)).trans hx0
      have k0 := b0.cell 0
      have f0 := b0.frozen 0
      have k3 := p3.cell 0
      have k4 := p4.cell 0
      rw [List.getElem?_cons_zero] at k0 k3 k4
      obtain ⟨V2, hV2⟩ : ∃ V2, V.setCell ⟨B, 0, none⟩ (.bool true) = V2 := ⟨_, rfl⟩
      have g0 : Blk V2 B 4 [.bool true] := by rw [← hV2]; exact set_blk b0 _
      have gD : V2.heap[Dn]? = some (.deferred (some [])) := by rw [← hV2]; exact (Below.heap_setCell _ _ _ _ (by show Dn ≠ B; omega)).trans hdf
      have gB : Below B w V2 := by rw [← hV2]; exact (hbw1.trans (p5.mono (by omega))).setCell (p := ⟨B, 0, none⟩) (Nat.le_refl _) _
      have hcl : (V2.putObj Dn (.deferred none)).cell? ⟨B, 0, none⟩ = some (.bool true) := by
        rw [World.cell?_of_block (w := V2) (put_block V2 Dn B _ (by omega))]
        exact g0.cell 0
      have hres : ∀ (a : Array Value), a.getD 6 undef = .pointer (some ⟨B, 0, none⟩) → (results Try.f6 a).run Try.prog (V2.putObj Dn (.deferred none)) = .ok (.bool true) (V2.putObj Dn (.deferred none)) :=
        fun a ha => results_cell1 rfl a _ _ ha aggB hcl
      have HRES := Lib.hid hres
      have HGD := Lib.hid gD
      have HBF := Lib.hid (put_below gB (show B ≤ Dn by omega) (.deferred none))
      clear hres gD gB hcl g0 hst hbw1 p3 p4 p5 b0
      have hTl : T.length = k + 1 := by
        have := congrArg List.length ht
        rw [List.length_append] at this
        rw [← HT.out, List.length_take]; omega
      have d7 : ((k : Int) + 1 == (T.length : Int)) = true := by simp; omega
      clear ht hTl hpl
      gi_wp2_with fail
      refine ⟨by simp, .inl ⟨_, _, rfl, run_takeDeferred HGD.out, ?_⟩⟩
      exact ⟨_, HRES.out _ rfl, rfl, by rw [HBW.out]; exact HBF.out⟩
    · exact absurd ⟨t, ht⟩ hno
end Go.Proofs.Ytmiffljcggfcgaa.Til
