/- slices.Backward over peaks; tree.Root. -/
import Derived.Test.YtnecgoahdkfbeaaDoorTreP
import Derived.Test.YtnecgoahdkfbeaaDoorEngF
namespace Go.Proofs.YtnecgoahdkfbeaaDoor.TreP
open Go Go.RowKit Go.Proofs.YtnecgoahdkfbeaaDoor Go.Proofs.YtnecgoahdkfbeaaDoor.Cop Go.Proofs.YtnecgoahdkfbeaaDoor.Ver Go.Proofs.YtnecgoahdkfbeaaDoor.Tre Go.Proofs.YtnecgoahdkfbeaaDoor.Vfy Go.Proofs.YtnecgoahdkfbeaaDoor.Oct Go.Proofs.YtnecgoahdkfbeaaDoor.Dsl Go.Proofs.YtnecgoahdkfbeaaDoor.Sha
set_option linter.unusedVariables false
set_option linter.unusedSimpArgs false
theorem ag185_ro (w : World) : (isAgg 185).run Tryd.prog w = .ok false w := by kernel_rfl
theorem sz187_ro : (Tryd.prog.info? 187).map (fun i => i.size) = some 33 := by kernel_rfl
theorem ag187_ro (w : World) : (isAgg 187).run Tryd.prog w = .ok true w := by kernel_rfl
def encP (p : Nat × List UInt8) : List Value := .int .i64 (p.1 : Int) :: bcs p.2
def dP : Nat × List UInt8 := (0, Oct.dz)
theorem encP_len {p : Nat × List UInt8} (h : p.2.length = 32) : (encP p).length = 33 := by simp [encP, bcs_length, h]
theorem one_part (a : Nat × List UInt8) : ∀ c ∈ encP a, c.oneCell' = true := Eng.one_cons rfl (bcs_one _)
theorem zP : (Value.agg (encP (0, Oct.dz)).toArray).cells.size = 33 := by simp [Value.cells, encP, bcs_length, Oct.dz]
theorem bldP (n : Nat) (d : List UInt8) (hd : d.length = 32) (w : World) : (Instr.build 187 #[(0, .int .i64 (n : Int)), (1, dg d)]).run Tryd.prog w = .ok (.agg (.int .i64 (n : Int) :: bcs d : List Value).toArray) w := by
  refine run_build _ _ _ _ ?_
  have e : ∀ x y : Value, Tryd.prog.built 187 [(0, x), (1, y)] = Instr.fill (#[(0, 1), (1, 32)][·]?) (encP (0, Oct.dz)).toArray [(0, x), (1, y)] := by intro x y; kernel_rfl
  show Tryd.prog.built 187 [(0, .int .i64 (n : Int)), (1, dg d)] = _
  rw [e, Eng.fill_step (cells' := (encP (n, Oct.dz)).toArray) rfl (cs := [.int .i64 (n : Int)]) rfl rfl (by simp [encP, bcs_length, Oct.dz]) (by simp [encP, bcs_length, Oct.dz]), Eng.fill_step (cells' := (encP (n, d)).toArray) (off := 1) (size := 32) rfl (cs := bcs d) rfl (by rw [bcs_length]; exact hd) (by simp [encP, bcs_length, Oct.dz]) ?_]
  · rfl
  · have h1 : (encP (n, Oct.dz)).drop 33 = [] := List.drop_eq_nil_of_le (by simp [encP, bcs_length, Oct.dz])
    simp [encP, bcs_length, Oct.dz]
/-- The places of a slice, from the last one down. -/
def downs (n : Nat) : List Nat := (List.range n).map fun i => n - 1 - i
def encY (l : List (Nat × List UInt8)) (x : { j : Nat // j < l.length }) : Array Value := #[.int .i64 (x.1 : Int), .agg (encP (l.getD x.1 dP)).toArray]
set_option maxRecDepth 100000 in
set_option maxHeartbeats 4000000 in
theorem bwd_stops (l : List (Nat × List UInt8)) (hP : ∀ p ∈ l, p.2.length = 32) (Bs y : Nat) (v : Value) (w : World) (hBs : Blk w Bs 185 [v]) (hv : Eng.RowL 33 encP w v l) (hy : ∀ a n c, v = .slice (some a) n c → a.block = y) (hyl : y < w.heap.size) :
    SeqStopsK Fence.wide 8 Tryd.prog 177 #[.pointer (some ⟨Bs, 0, none⟩)] (encY l) (Eng.Two Bs y) (fun ys => ys.map (·.1) = downs l.length) (fun _ => True) (l.length + 1) w := by
  intro lc J Jx W hW hJ hJx hY h0
  have hsm := hv.1.small
  have hB : Blk W Bs 185 [v] := hBs.below hW
  have hR : Eng.RowL 33 encP W v l := hv.below hW
  have hxl : Bs < W.heap.size := hB.lt
  have hyl2 : y < W.heap.size := Nat.lt_of_lt_of_le hyl hW.size
  refine Eng.enterI (l := [.func (.yield lc) #[] #[], .pointer (some ⟨Bs, 0, none⟩)]) Tryd.func177 rfl 19 rfl (by simp) ?_
  refine Eng.seqk fun K1 hK1 => ?_
  refine Eng.reg ?_
  refine Eng.sv rfl rfl (Eng.x_ld1 (v := v) rfl ag185_ro rfl ((hB).cell 0)) ?_
  refine Eng.sv rfl rfl (Eng.x_len (v := v) (r := (l.length : Int)) rfl Tryd.underlying185 rfl (hR).1 rfl) ?_
  refine Eng.sv rfl rfl (Eng.x_sub rfl rfl rfl (Eng.w64 (r := ((l.length : Int) - 1)) (by omega))) ?_
  refine Eng.sv rfl rfl (Eng.x_as (v := (.int .i64 ((l.length : Int) - 1))) rfl rfl) ?_
  refine Eng.nil ?_
  refine hK1 _ _ ?_
  refine Eng.blk ?_
  refine Eng.loopN (fun zz u w' => ∃ (k : Nat), ∃ (pre : List { j : Nat // j < l.length }), zz = l.length + 1 - k ∧ k ≤ l.length ∧ (pre.map (·.1) = (List.range k).map fun i => l.length - 1 - i) ∧ Eng.Has u [(0, (.func (.yield lc) #[] #[])), (1, (.pointer (some ⟨Bs, 0, none⟩))), (3, (.int .i64 ((l.length : Int) - 1 - (k : Int))))] ∧ Blk w' Bs 185 [v] ∧ Eng.RowL 33 encP w' v l ∧ J pre w' ∧ Eng.Two Bs y W w') _ ⟨0, [], rfl, Nat.zero_le _, rfl, ⟨rfl, rfl, (Eng.ie (by first | omega | rfl)), trivial⟩, hB, hR, h0, (Eng.Two.refl _ _ _)⟩ ?_
  rintro _ u2 w2 ⟨k, pre, rfl, hs2_0, hs2_1, hH2, hkL2_0, hrL2_0, hJJ, hTT⟩ K2 hK2
  obtain ⟨u2, rfl⟩ := hH2.ex
  refine Eng.seqk fun K3 hK3 => ?_
  refine Eng.seqk fun K4 hK4 => ?_
  refine Eng.reg ?_
  refine Eng.sv rfl rfl (Eng.x_mv (v := (.int .i64 ((l.length : Int) - 1 - (k : Int)))) rfl rfl) ?_
  by_cases h8 : (((l.length : Int) - 1 - (k : Int)) : Int) ≥ 0
  · skip
    refine Eng.sv rfl rfl (Eng.x_ge (r := true) rfl rfl rfl (decide_eq_true (by omega))) ?_
    refine Eng.nil ?_
    refine hK4 _ _ ?_
    refine Eng.cond_t rfl ?_
    refine Eng.skp ?_
    refine hK3 _ _ ?_
    refine Eng.seqk fun K5 hK5 => ?_
    refine Eng.blk ?_
    refine Eng.seqk fun K6 hK6 => ?_
    refine Eng.reg ?_
    refine Eng.sv rfl rfl (Eng.x_mv (v := (.func (.yield lc) #[] #[])) rfl rfl) ?_
    refine Eng.sv rfl rfl (Eng.x_mv (v := (.int .i64 ((l.length : Int) - 1 - (k : Int)))) rfl rfl) ?_
    refine Eng.sv rfl rfl (Eng.x_ld1 (v := v) rfl ag185_ro rfl ((hkL2_0).cell 0)) ?_
    refine Eng.sv rfl rfl (Eng.x_mv (v := (.int .i64 ((l.length : Int) - 1 - (k : Int)))) rfl rfl) ?_
    refine Eng.sv rfl rfl (Eng.x_ia (v := v) (j := l.length - 1 - k) rfl Tryd.underlying185 sz187_ro (by decide) rfl rfl (hrL2_0).1 (Eng.flat_len (hrL2_0).2) (by omega) (by omega)) ?_
    refine Eng.sv rfl rfl (Eng.x_ldA (v := (.agg (encP ((l).getD (l.length - 1 - k) dP)).toArray)) rfl ag187_ro sz187_ro rfl (Eng.enc_len (hrL2_0).2 dP (by omega)) (Eng.rl_elem hrL2_0 dP (by omega)) rfl) ?_
    have hkl : l.length - 1 - k < l.length := by omega
    have hpl : pre.length = k := by have := congrArg List.length hs2_1; simpa using this
    obtain ⟨fn, tmps, asg, bdy, hyy, hRR⟩ := hY pre ⟨l.length - 1 - k, hkl⟩ _ hJJ (by omega)
    refine Eng.yl rfl (Eng.x_yl rfl rfl (vs := [.int .i64 ((l.length : Int) - 1 - (k : Int)), (.agg (encP ((l).getD (l.length - 1 - k) dP)).toArray)]) rfl (by rw [show ((l.length : Int) - 1 - (k : Int)) = ((l.length - 1 - k : Nat) : Int) by omega]; exact hyy)) hRR ?_
    rintro _ w7 (⟨rfl, hJ2, hT2⟩ | ⟨rfl, hJx2⟩)
    · skip
      refine Eng.aft_v rfl ?_
      have hB2 : Blk w7 Bs 185 [v] := hT2.1.trans hkL2_0
      have hR2 : Eng.RowL 33 encP w7 v l := ⟨Eng.row_block (hrL2_0).1 (fun a m c e => by rw [hy a m c e]; exact hT2.2), (hrL2_0).2⟩
      have hnx : List.map (fun x : { j : Nat // j < l.length } => x.1) (pre ++ [⟨l.length - 1 - k, hkl⟩]) = (List.range (k + 1)).map fun i => l.length - 1 - i := by rw [List.map_append, hs2_1, List.range_succ, List.map_append]; rfl
      refine Eng.sv rfl rfl (Eng.x_not (v := (.bool false)) rfl rfl rfl) ?_
      refine Eng.nil ?_
      refine hK6 _ _ ?_
      refine Eng.cond_f rfl ?_
      refine Eng.skp ?_
      refine Eng.nb ?_
      refine hK5 _ _ ?_
      refine Eng.reg ?_
      refine Eng.sv rfl rfl (Eng.x_mv (v := (.int .i64 ((l.length : Int) - 1 - (k : Int)))) rfl rfl) ?_
      refine Eng.sv rfl rfl (Eng.x_sub rfl rfl rfl (Eng.w64 (r := ((l.length : Int) - 1 - ((k + 1 : Nat) : Int))) (by omega))) ?_
      refine Eng.sv rfl rfl (Eng.x_as (v := (.int .i64 ((l.length : Int) - 1 - ((k + 1 : Nat) : Int)))) rfl rfl) ?_
      refine Eng.nil ?_
      exact hK2 _ _ _ ⟨k + 1, pre ++ [⟨l.length - 1 - k, hkl⟩], rfl, by omega, hnx, ⟨rfl, rfl, (Eng.ie (by first | omega | rfl)), trivial⟩, hB2, hR2, hJ2, (hTT.trans hT2)⟩ (by omega)
    · skip
      refine Eng.aft_v rfl ?_
      refine Eng.sv rfl rfl (Eng.x_not (v := (.bool true)) rfl rfl rfl) ?_
      refine Eng.nil ?_
      refine hK6 _ _ ?_
      refine Eng.cond_t rfl ?_
      refine Eng.rt ?_
      refine Eng.br ?_
      refine Eng.tr ?_
      refine Eng.tr ?_
      refine Eng.br ?_
      exact Eng.ret (Eng.res0 rfl) ⟨⟨_, rfl⟩, .inr ⟨_, trivial, hJx2⟩⟩
  · skip
    refine Eng.sv rfl rfl (Eng.x_ge (r := false) rfl rfl rfl (decide_eq_false (by omega))) ?_
    refine Eng.nil ?_
    refine hK4 _ _ ?_
    refine Eng.cond_f rfl ?_
    refine Eng.xt ?_
    refine Eng.te ?_
    refine Eng.te ?_
    refine Eng.be ?_
    have hkn : k = l.length := by omega
    exact Eng.fin (Eng.res0 rfl) ⟨⟨_, rfl⟩, .inl ⟨pre, (show pre.map (·.1) = _ by rw [hs2_1, hkn]; rfl), hJJ⟩⟩
set_option maxRecDepth 100000 in
set_option maxHeartbeats 4000000 in
theorem bwd_calls (v : Value) (n : Nat) (cs : List Value) (w : World) (h : Row w v n cs) : Calls Tryd.prog 118 #[v] w (fun e w' => ∃ b, e = .returned (.func (.func 177) #[] #[.pointer (some ⟨b, 0, none⟩)]) ∧ Blk w' b 185 [v] ∧ w.heap.size ≤ b ∧ Below w.heap.size w w') := by
  refine Eng.enter (l := [v]) Tryd.func118 rfl 4 rfl (by simp) ?_
  refine Eng.seqk fun K1 hK1 => ?_
  refine Eng.reg ?_
  refine Eng.bo (v := v) (cs := [v]) rfl rfl rfl rfl (by rw [Eng.Row.cells1 h]) ?_
  intro w2 hk2 hb2 hz2
  refine Eng.sv rfl rfl (Eng.x_as (v := Value.nilFunc) rfl rfl) ?_
  refine Eng.nil ?_
  refine hK1 _ _ ?_
  refine Eng.seqk fun K3 hK3 => ?_
  refine Eng.reg ?_
  refine Eng.sv rfl rfl (Eng.x_mf (cap := [(.pointer (some ⟨w.heap.size, 0, none⟩))]) rfl rfl) ?_
  refine Eng.sv rfl rfl (Eng.x_as (v := (.func (.func 177) #[] #[(.pointer (some ⟨w.heap.size, 0, none⟩))])) rfl rfl) ?_
  refine Eng.nil ?_
  refine hK3 _ _ ?_
  refine Eng.rt ?_
  refine Eng.ret (Eng.res1 (v1 := (.func (.func 177) #[] #[(.pointer (some ⟨w.heap.size, 0, none⟩))])) rfl (Eng.rdt rfl)) ?_
  exact ⟨_, rfl, hk2, (Nat.le_refl _), hb2⟩
/-- The root of any leaves. -/
def rootS (l : List (List UInt8)) : List UInt8 := if l.length = 0 then sha [] else R l
theorem rootS_len (l : List (List UInt8)) (h : All32 l) : (rootS l).length = 32 := by
  unfold rootS; split
  · exact sha_len _
  · exact R_len l h (by omega)
theorem PK.len : ∀ {s : List (Nat × List UInt8)} {l : List (List UInt8)} {k : Nat}, PK s l k → s = [] ∨ 2 ^ (k + s.length - 1) ≤ l.length
  | [], l, k, _ => .inl rfl
  | q :: r, l, k, ⟨j, a, b, h1, h2, h3, h4, h5, h6⟩ => by
    right
    rcases PK.len h6 with hr | hr
    · subst hr
      have hp := Nat.pow_le_pow_right (show 0 < 2 by decide) h1
      rw [h3, List.length_append]
      simp only [List.length_cons, List.length_nil, Nat.zero_add, Nat.add_sub_cancel]
      omega
    · have hp : 2 ^ (k + (q :: r).length - 1) ≤ 2 ^ (j + 1 + r.length - 1) := Nat.pow_le_pow_right (by decide) (by simp only [List.length_cons]; omega)
      rw [h3, List.length_append]; omega
theorem PK.short {s : List (Nat × List UInt8)} {l : List (List UInt8)} {k : Nat} (h : PK s l k) (hm : l.length ≤ 281474976710656) : s.length ≤ 50 := by
  rcases PK.len h with rfl | hr
  · simp
  · by_cases hs : s.length ≤ 50
    · exact hs
    · have := Nat.pow_le_pow_right (show 0 < 2 by decide) (show 50 ≤ k + s.length - 1 by omega)
      have h50 : (2 : Nat) ^ 50 = 1125899906842624 := by decide
      omega
theorem PK.mem32 : ∀ {s : List (Nat × List UInt8)} {l : List (List UInt8)} {k : Nat}, PK s l k → All32 l → ∀ p ∈ s, p.2.length = 32
  | [], l, k, _, _, p, hp => by cases hp
  | q :: r, l, k, ⟨j, a, b, h1, h2, h3, h4, h5, h6⟩, h32, p, hp => by
    have ha : All32 a := fun d hd => h32 d (by rw [h3]; exact List.mem_append_left _ hd)
    have hb : All32 b := fun d hd => h32 d (by rw [h3]; exact List.mem_append_right _ hd)
    rcases List.mem_cons.1 hp with rfl | hp
    · rw [h5]; exact R_len b hb (by rw [h4]; exact Nat.pos_of_ne_zero (by simp))
    · exact PK.mem32 h6 ha p hp
/-- Two equal peaks become one. -/
theorem PK.merge {q : Nat × List UInt8} {r : List (Nat × List UInt8)} {a b : List (List UInt8)} {j : Nat} (h : PK (q :: r) a j) (hq : q.1 = 2 ^ j) (hb : b.length = 2 ^ j) (hm : (a ++ b).length ≤ 281474976710656) :
    ∃ a' b', PK r a' (j + 1) ∧ b'.length = 2 ^ (j + 1) ∧ a' ++ b' = a ++ b ∧ nodeS q.2 (R b) = R b' := by
  obtain ⟨j', a', b', h1, h2, h3, h4, h5, h6⟩ := h
  have hj : j' = j := by
    rcases Nat.lt_or_ge j j' with c | c
    · have := Nat.pow_lt_pow_right (show 1 < 2 by decide) c; omega
    · omega
  subst hj
  refine ⟨a', b' ++ b, h6, by rw [List.length_append, h4, hb, Nat.pow_succ]; omega, by rw [h3, List.append_assoc], ?_⟩
  rw [h5, R_app b' b j' h4 (by rw [hb]; exact Nat.pos_of_ne_zero (by simp)) (by omega) (by rw [h3] at hm; simp only [List.length_append] at hm ⊢; omega)]
theorem PK.stay {s : List (Nat × List UInt8)} {a b : List (List UInt8)} {j : Nat} (h : PK s a j) (hs : s = [] ∨ ∃ q r, s = q :: r ∧ q.1 ≠ 2 ^ j) (hb : b.length = 2 ^ j) : PK ((2 ^ j, R b) :: s) (a ++ b) 0 := by
  refine ⟨j, a, b, Nat.zero_le _, rfl, rfl, hb, rfl, ?_⟩
  rcases hs with rfl | ⟨q, r, rfl, hne⟩
  · exact h
  · obtain ⟨j', a', b', h1, h2, h3, h4, h5, h6⟩ := h
    refine ⟨j', a', b', ?_, h2, h3, h4, h5, h6⟩
    rcases Nat.lt_or_ge j j' with c | c
    · exact c
    · have : j' = j := by omega
      subst this; exact absurd h2 hne
theorem PK.root {s : List (Nat × List UInt8)} {l : List (List UInt8)} (h : PK s l 0) (h0 : 0 < l.length) (hm : l.length ≤ 281474976710656) : ∃ q r, s = q :: r ∧ foldP q.2 r = R l := by
  cases s with
  | nil => have h : l = [] := h; subst h; simp at h0
  | cons q r =>
    obtain ⟨j, a, b, h1, h2, h3, h4, h5, h6⟩ := h
    refine ⟨q, r, rfl, ?_⟩
    rw [h5, h3]
    exact PK.fold r a b (j + 1) h6 (by rw [h4]; exact Nat.pos_of_ne_zero (by simp)) (by rw [h4, Nat.pow_succ]; omega) (by rw [← h3]; exact hm)
/-- What the loop over the peaks, from the last but one down, has made. -/
def foldB (l : List (Nat × List UInt8)) (d : List UInt8) (pre : List { j : Nat // j < l.length }) : List UInt8 := pre.foldl (fun d x => nodeS (l.getD x.1 dP).2 d) d
theorem foldB_len (l : List (Nat × List UInt8)) (d : List UInt8) (hd : d.length = 32) (pre : List { j : Nat // j < l.length }) : (foldB l d pre).length = 32 := by
  induction pre generalizing d with
  | nil => exact hd
  | cons x pre ih => exact ih _ (nodeS_len _ _)
theorem foldB_snoc (l : List (Nat × List UInt8)) (d : List UInt8) (pre : List { j : Nat // j < l.length }) (x : { j : Nat // j < l.length }) : foldB l d (pre ++ [x]) = nodeS (l.getD x.1 dP).2 (foldB l d pre) := by unfold foldB; rw [List.foldl_append]; rfl
theorem foldB_all (l : List (Nat × List UInt8)) (d : List UInt8) (pre : List { j : Nat // j < l.length }) (h : pre.map (·.1) = downs l.length) : foldB l d pre = foldP d l.reverse := by
  have e : foldB l d pre = (pre.map (·.1)).foldl (fun d j => nodeS (l.getD j dP).2 d) d := by unfold foldB; rw [List.foldl_map]
  have e2 : l.reverse = (downs l.length).map fun j => l.getD j dP := by
    apply List.ext_getElem
    · simp [downs]
    · intro i h1 h2
      have hi : i < l.length := by simpa using h1
      simp only [List.getElem_reverse, List.getElem_map, downs, List.getElem_range, List.getD_eq_getElem?_getD]
      rw [List.getElem?_eq_getElem (by omega)]
      rfl
  rw [e, h, e2]
  unfold foldP
  rw [List.foldl_map]
end Go.Proofs.YtnecgoahdkfbeaaDoor.TreP
