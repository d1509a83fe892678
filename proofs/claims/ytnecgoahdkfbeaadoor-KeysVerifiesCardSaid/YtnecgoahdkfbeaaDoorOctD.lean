/- Contracts of package octet's reading of digests, and of the reference's: any bytes, any place. -/
import Derived.Test.YtnecgoahdkfbeaaDoorOctR
namespace Go.Proofs.YtnecgoahdkfbeaaDoor.Oct
open Go Go.RowKit Go.Proofs.YtnecgoahdkfbeaaDoor.Cop
set_option linter.unusedVariables false
set_option linter.unusedSimpArgs false

theorem aggD (w : World) : (isAgg 45).run Tryd.prog w = .ok true w := by kernel_rfl
theorem sizeD : (Tryd.prog.info? 45).map (fun i => i.size) = some 32 := by kernel_rfl
/-- The digest of noughts. -/
def dz : List UInt8 := List.replicate 32 0
theorem zeroD (w : World) : (zeroValue 45).run Tryd.prog w = .ok (dg dz) w := by kernel_rfl
theorem dz_length : dz.length = 32 := by simp [dz]
theorem dg_size {d : List UInt8} (h : d.length = 32) : (dg d).cells.size = 32 := by simp [Value.cells, bcs, h]
theorem dg_one (d : List UInt8) : ∀ u ∈ (dg d).cells.toList, u.oneCell' = true := by intro u hu; exact bcs_one d u (by simpa [Value.cells] using hu)
theorem dz_cells : (dg dz).cells.toList.length = 32 := by simp [Value.cells, bcs, dz]

/-- What Digest does. -/
def GetD (bs : List UInt8) (p : Int) (w : World) (e : Ending) (w' : World) : Prop :=
  Below w.heap.size w w' ∧ e = .returned (if room bs.length p 32 = 0 then .tuple #[dg ((bs.drop p.toNat).take 32), .int .i64 (p + 32), .int .i64 0] else .tuple #[dg dz, .int .i64 0, .int .i64 (room bs.length p 32)])

set_option maxRecDepth 100000 in
theorem gdig_calls (v : Value) (bs : List UInt8) (p : Int) (w : World) (h : Bs w v bs) (hp : -9223372036854775808 ≤ p) :
    Calls Tryd.prog 119 #[v, .int .i64 p] w (GetD bs p w) := by
  have hb := h.2
  by_cases c : room bs.length p 32 = 0
  · obtain ⟨hp0, hp1⟩ := room_zero c
    obtain ⟨q, rfl⟩ := Int.eq_ofNat_of_zero_le hp0
    have hl : ((bs.drop q).take 32).length = 32 := by rw [List.length_take, List.length_drop]; omega
    have HL := Lib.hid hl
    clear hl
    go_enter Tryd.func119, Tryd.ntmps119
    go_wp2_with ((with_reducible refine gate_dst (N := 4) rfl ?_); go_loud (refine wp_alloc rfl _ rfl zeroD ?_); intro w1 hk1 hb1 hz1)
    have h1 := h.below hb1
    refine (room_calls v bs q 32 w1 h1 (by omega) (by omega)).mono ?_
    rintro e w' ⟨rfl, rfl⟩
    rw [c]
    go_wp2_with (first | ((with_reducible refine gate_dst (N := 19) rfl ?_); go_loud (refine wp_slice rfl 48 5 _ _ _ rfl Tryd.underlying48 size8 rfl h1.1 (by rw [Nat.mul_one]; exact bcs_length bs) q (q + 32) (.inr ⟨_, rfl⟩) (.inr ⟨_, rfl⟩) (by omega) (by omega) ?_); intro v' hr'; rw [Nat.mul_one, Nat.mul_one, Nat.add_sub_cancel_left, bcs_cut] at hr') | ((with_reducible refine gate_dst (N := 20) rfl ?_); go_loud (refine wp_to_array rfl 45 5 32 _ rfl Tryd.underlying45 (by decide) rfl hr' (by rw [bcs_length]; exact HL.out) ?_); intro ad had) | ((with_reducible refine gate_dst (N := 21) rfl ?_); go_loud (refine wp_load_agg rfl 45 _ rfl aggD sizeD rfl (by rw [bcs_length]; exact HL.out) had ?_)) | ((with_reducible refine gate_store (t := 45) (p := 4) rfl ?_); go_loud (refine wp_store_blk rfl 45 _ _ rfl rfl sizeD rfl hk1 dz_cells (v := dg ((bs.drop q).take 32)) rfl (dg_size HL.out) (dg_one _) ?_); intro w2 hk2 hg2))
    refine bodyPost_ret (results_blk3 rfl aggD sizeD _ rfl hk2 (dg_size HL.out)) rfl ?_
    refine ⟨hb1.trans (below_grown hg2 (Nat.le_of_lt hz1) (fun k hk => by cases hk; exact Nat.le_refl _)), ?_⟩
    rw [if_pos c, Int.toNat_natCast]
    simp [Value.cells]
  · have HC := Lib.hid c
    clear c
    have hne : (room bs.length p 32 != 0) = true := by rw [bne_iff_ne]; exact HC.out
    go_enter Tryd.func119, Tryd.ntmps119
    go_wp2_with ((with_reducible refine gate_dst (N := 4) rfl ?_); go_loud (refine wp_alloc rfl _ rfl zeroD ?_); intro w1 hk1 hb1 hz1)
    have h1 := h.below hb1
    refine (room_calls v bs p 32 w1 h1 (by omega) (by omega)).mono ?_
    rintro e w' ⟨rfl, rfl⟩
    go_wp2_with (first | ((with_reducible refine gate_dst (N := 13) rfl ?_); go_loud (refine wp_load_blk rfl 45 _ rfl aggD sizeD rfl hk1 dz_cells ?_)) | ((with_reducible refine gate_store (t := 45) (p := 4) rfl ?_); go_loud (refine wp_store_blk rfl 45 _ _ rfl rfl sizeD rfl hk1 dz_cells (v := dg dz) rfl (dg_size dz_length) (dg_one _) ?_); intro w2 hk2 hg2))
    refine bodyPost_ret (results_blk3 rfl aggD sizeD _ rfl hk2 (dg_size dz_length)) rfl ?_
    refine ⟨hb1.trans (below_grown hg2 (Nat.le_of_lt hz1) (fun k hk => by cases hk; exact Nat.le_refl _)), ?_⟩
    rw [if_neg HC.out]
    simp [Value.cells]

/-! ### The reference's digest, byte by byte. -/
theorem aggA (w : World) : (isAgg 44).run Tryd.prog w = .ok true w := by kernel_rfl
theorem sizeA : (Tryd.prog.info? 44).map (fun i => i.size) = some 32 := by kernel_rfl
theorem zeroA (w : World) : (zeroValue 44).run Tryd.prog w = .ok (dg dz) w := by kernel_rfl

set_option maxRecDepth 100000 in
theorem rdig_no (v : Value) (bs : List UInt8) (p : Int) (w : World) (h : Bs w v bs) (hp : -9223372036854775808 ≤ p) (hc : ¬ room bs.length p 32 = 0) :
    Calls Tryd.prog 75 #[v, .int .i64 p] w (GetD bs p w) := by
  have hb := h.2
  obtain ⟨a, cap, rfl, hr2⟩ := h.1.open
  by_cases c1 : p < 0
  · skip
    have hroom : room bs.length p 32 = 2 := by unfold room; rw [if_pos c1]
    have HR := Lib.hid hroom
    have HC := Lib.hid hc
    clear hroom hc
    go_enter Tryd.func75, Tryd.ntmps75
    go_wp2_with (first | ((with_reducible refine gate_dst (N := 4) rfl ?_); go_loud (refine wp_alloc rfl _ rfl zeroA ?_); intro w1 hk1 hb1 hz1) | ((with_reducible refine gate_dst (N := 7) rfl ?_); go_loud (refine wp_alloc rfl _ rfl zeroA ?_); intro w2 hk2 hb2 hz2) | ((with_reducible refine gate_dst (N := 17) rfl ?_); go_loud (refine wp_load_blk rfl 44 _ rfl aggA sizeA rfl hk2 dz_cells ?_)) | ((with_reducible refine gate_store (t := 44) (p := 4) rfl ?_); go_loud (refine wp_store_blk rfl 44 _ _ rfl rfl sizeA rfl (hk1.below hb2) dz_cells (v := dg dz) rfl (dg_size dz_length) (dg_one _) ?_); intro w3 hk3 hg3))
    refine bodyPost_ret (results_blk3 rfl aggA sizeA _ rfl hk3 (dg_size dz_length)) rfl ?_
    refine ⟨(hb1.trans (hb2.mono (by omega))).trans (below_grown hg3 (by omega) (fun k hk => by cases hk; exact Nat.le_refl _)), ?_⟩
    rw [HR.out]
    simp [Value.cells]
  · have d1 : decide (p < 0) = false := decide_eq_false c1
    by_cases c2 : (bs.length : Int) < p
    · skip
      have hroom : room bs.length p 32 = 2 := by unfold room; rw [if_neg c1, if_pos c2]
      have HR := Lib.hid hroom
      have HC := Lib.hid hc
      clear hroom hc
      go_enter Tryd.func75, Tryd.ntmps75
      go_wp2_with (first | ((with_reducible refine gate_dst (N := 4) rfl ?_); go_loud (refine wp_alloc rfl _ rfl zeroA ?_); intro w1 hk1 hb1 hz1) | ((with_reducible refine gate_dst (N := 7) rfl ?_); go_loud (refine wp_alloc rfl _ rfl zeroA ?_); intro w2 hk2 hb2 hz2) | ((with_reducible refine gate_dst (N := 17) rfl ?_); go_loud (refine wp_load_blk rfl 44 _ rfl aggA sizeA rfl hk2 dz_cells ?_)) | ((with_reducible refine gate_store (t := 44) (p := 4) rfl ?_); go_loud (refine wp_store_blk rfl 44 _ _ rfl rfl sizeA rfl (hk1.below hb2) dz_cells (v := dg dz) rfl (dg_size dz_length) (dg_one _) ?_); intro w3 hk3 hg3))
      refine bodyPost_ret (results_blk3 rfl aggA sizeA _ rfl hk3 (dg_size dz_length)) rfl ?_
      refine ⟨(hb1.trans (hb2.mono (by omega))).trans (below_grown hg3 (by omega) (fun k hk => by cases hk; exact Nat.le_refl _)), ?_⟩
      rw [HR.out]
      simp [Value.cells]

    · by_cases c3 : (bs.length : Int) - p < 32
      · skip
        have hroom : room bs.length p 32 = 10 := by unfold room; rw [if_neg c1, if_neg c2, if_pos (by omega)]
        have HR := Lib.hid hroom
        have HC := Lib.hid hc
        clear hroom hc
        go_enter Tryd.func75, Tryd.ntmps75
        go_wp2_with (first | ((with_reducible refine gate_dst (N := 4) rfl ?_); go_loud (refine wp_alloc rfl _ rfl zeroA ?_); intro w1 hk1 hb1 hz1) | ((with_reducible refine gate_dst (N := 7) rfl ?_); go_loud (refine wp_alloc rfl _ rfl zeroA ?_); intro w2 hk2 hb2 hz2) | ((with_reducible refine gate_dst (N := 23) rfl ?_); go_loud (refine wp_load_blk rfl 44 _ rfl aggA sizeA rfl hk2 dz_cells ?_)) | ((with_reducible refine gate_store (t := 44) (p := 4) rfl ?_); go_loud (refine wp_store_blk rfl 44 _ _ rfl rfl sizeA rfl (hk1.below hb2) dz_cells (v := dg dz) rfl (dg_size dz_length) (dg_one _) ?_); intro w3 hk3 hg3))
        refine bodyPost_ret (results_blk3 rfl aggA sizeA _ rfl hk3 (dg_size dz_length)) rfl ?_
        refine ⟨(hb1.trans (hb2.mono (by omega))).trans (below_grown hg3 (by omega) (fun k hk => by cases hk; exact Nat.le_refl _)), ?_⟩
        rw [HR.out]
        simp [Value.cells]

      · exact (hc (by unfold room; rw [if_neg c1, if_neg c2, if_neg (by omega)])).elim

/-- The first k bytes are there, noughts behind. -/
def part (l : List UInt8) (k : Nat) : List UInt8 := l.take k ++ List.replicate (32 - k) 0
theorem part_length (l : List UInt8) (k : Nat) (hl : l.length = 32) (hk : k ≤ 32) : (part l k).length = 32 := by simp [part, hl]; omega
theorem part_set (l : List UInt8) (k : Nat) (hl : l.length = 32) (hk : k < 32) : (part l k).set k (l[k]'(by omega)) = part l (k + 1) := by
  unfold part
  rw [take_snoc l k (by omega)]
  have e : 32 - k = (32 - (k + 1)) + 1 := by omega
  rw [e, List.replicate_succ, List.set_append_right _ _ (by simp; omega)]
  have e2 : k - (l.take k).length = 0 := by simp; omega
  have e3 : 32 - (k + 1) + 1 - 1 = 32 - (k + 1) := by omega
  rw [e2]
  simp only [List.append_assoc, List.singleton_append, List.set_cons_zero]

set_option maxRecDepth 100000 in
theorem rdig_yes (v : Value) (bs : List UInt8) (p : Int) (w : World) (h : Bs w v bs) (hp : -9223372036854775808 ≤ p) (hc : room bs.length p 32 = 0) :
    Calls Tryd.prog 75 #[v, .int .i64 p] w (GetD bs p w) := by
  have hb := h.2
  obtain ⟨hp0, hp1⟩ := room_zero hc
  obtain ⟨q, rfl⟩ := Int.eq_ofNat_of_zero_le hp0
  have hl : ((bs.drop q).take 32).length = 32 := by rw [List.length_take, List.length_drop]; omega
  obtain ⟨a, cap, rfl, hr2⟩ := h.1.open
  have hgl : ∃ l, l = (bs.drop q).take 32 := ⟨_, rfl⟩
  obtain ⟨l, hgl⟩ := hgl
  rw [← hgl] at hl
  have HL := Lib.hid hl
  have HG := Lib.hid hgl
  have HC := Lib.hid hc
  have d1 : decide ((q : Int) < 0) = false := decide_eq_false (by omega)
  have d2 : decide (bs.length < q) = false := decide_eq_false (by omega)
  have d3 : decide ((bs.length : Int) - (q : Int) < 32) = false := decide_eq_false (by omega)
  clear hl hc hgl
  go_enter Tryd.func75, Tryd.ntmps75
  go_wp2_with (first | ((with_reducible refine gate_dst (N := 4) rfl ?_); go_loud (refine wp_alloc rfl _ rfl zeroA ?_); intro w1 hk1 hb1 hz1) | ((with_reducible refine gate_dst (N := 7) rfl ?_); go_loud (refine wp_alloc rfl _ rfl zeroA ?_); intro w2 hk2 hb2 hz2))
  have h2 := (h.below hb1).below hb2
  have hk1' := hk1.below hb2
  have hbel : Below w.heap.size w w2 := hb1.trans (hb2.mono (by omega))
  go_loopw [8] (fun i wr => ∃ k : Nat, k ≤ 32 ∧ i = .int .i64 (k : Int) ∧ Blk wr w1.heap.size 44 (bcs (part l k)) ∧ w2.grownBy wr (some w1.heap.size)) (fun i _ => 32 - (intOf i).toNat)
  case atStart => exact ⟨0, Nat.zero_le _, rfl, hk2, World.grownBy.refl _ _⟩
  case round =>
    obtain ⟨k, hk, rfl, hkb, hgr⟩ := hrel
    by_cases hlt : k < 32
    · have hqk : q + k < bs.length := by omega
      have hlk : k < l.length := by rw [HL.out]; exact hlt
      have hu : (bcs bs)[((q : Int) + (k : Int)).toNat]? = some (u8c l[k]) := by
        rw [show ((q : Int) + (k : Int)).toNat = q + k by omega, bcs_at bs (q + k) hqk]
        congr 2
        simp [HG.out]
      have hbr : Below w.heap.size w wr := hbel.grown hgr (by have := hb1.size; have := hb2.size; omega) (fun j hj => by cases hj; exact hb1.size)
      have hr3 : Row wr (.slice a bs.length cap) bs.length (bcs bs) := h.1.below hbr
      have hpl : k < (bcs (part l k)).length := by rw [bcs_length, part_length l k HL.out (by omega)]; exact hlt
      have HU := Lib.hid hu
      have HS : Hid ((bcs (part l k)).set k (u8c l[k]) = bcs (part l (k + 1))) := by
        have e := part_set l k HL.out hlt
        show _ = _
        rw [← e]; simp [bcs, List.map_set]
      clear hu
      go_wp2_with (first | ((with_reducible refine gate_dst (N := 33) rfl ?_); go_loud (refine wp_index_load rfl (fun _ => rfl) 48 5 _ _ 33 rfl rfl rfl Tryd.underlying48 size8 agg8 rfl rfl hr3 (by rw [bcs_length]) (fun _ => rfl) (by omega) (by omega) HU.out ?_); intro p33) | ((with_reducible refine gate_store (t := 5) (p := 35) rfl ?_); go_loud (refine wp_store_cell rfl 5 _ _ rfl rfl size8 rfl hkb hpl (v := u8c l[k]) rfl rfl rfl ?_); intro w3 hk3 hg3; rw [HS.out] at hk3))
      go_roundw
      case rel => exact ⟨k + 1, by omega, by go_num, hk3, World.grownBy.trans hgr hg3⟩
      case measure => simp [intOf]; omega
    · have hk32 : k = 32 := by omega
      subst hk32
      have hk4 : Blk wr w.heap.size 44 (dg dz).cells.toList := hk1'.grown hgr (by intro e; injection e with e; omega)
      have hp32 : part l 32 = l := by unfold part; rw [List.take_of_length_le (Nat.le_of_eq HL.out)]; exact List.append_nil _
      rw [hp32] at hkb
      have hcl : (bcs l).length = 32 := by rw [bcs_length]; exact HL.out
      have HCL := Lib.hid hcl
      clear hcl hp32
      go_wp2_with (first | ((with_reducible refine gate_dst (N := 36) rfl ?_); go_loud (refine wp_load_blk rfl 44 _ rfl aggA sizeA rfl hkb HCL.out ?_)) | ((with_reducible refine gate_store (t := 44) (p := 4) rfl ?_); go_loud (refine wp_store_blk rfl 44 _ _ rfl rfl sizeA rfl hk4 dz_cells (v := dg l) rfl (dg_size HL.out) (dg_one _) ?_); intro w3 hk3 hg3))
      refine bodyPost_ret (results_blk3 rfl aggA sizeA _ rfl hk3 (dg_size HL.out)) rfl ?_
      have hbr : Below w.heap.size w wr := hbel.grown hgr (by have := hb1.size; have := hb2.size; omega) (fun j hj => by cases hj; exact hb1.size)
      refine ⟨hbr.trans (below_grown hg3 hbr.size (fun k hk => by cases hk; exact Nat.le_refl _)), ?_⟩
      rw [if_pos HC.out, Int.toNat_natCast, ← HG.out]
      simp [Value.cells]

theorem rdig_calls (v : Value) (bs : List UInt8) (p : Int) (w : World) (h : Bs w v bs) (hp : -9223372036854775808 ≤ p) :
    Calls Tryd.prog 75 #[v, .int .i64 p] w (GetD bs p w) := by
  by_cases c : room bs.length p 32 = 0
  · exact rdig_yes v bs p w h hp c
  · exact rdig_no v bs p w h hp c
def gv (bs : List UInt8) (p : Int) (n : Nat) : Nat := if room bs.length p n = 0 then num ((bs.drop p.toNat).take n) else 0
def gn (bs : List UInt8) (p : Int) (n : Nat) : Int := if room bs.length p n = 0 then p + n else 0
def gd (bs : List UInt8) (p : Int) : List UInt8 := if room bs.length p 32 = 0 then (bs.drop p.toNat).take 32 else dz
theorem gv_lt (bs : List UInt8) (p : Int) (n : Nat) : gv bs p n < 256 ^ n := by
  unfold gv; split
  · exact num_take_lt _ n n (Nat.le_refl _)
  · exact Nat.pow_pos (by decide)
theorem gd_length (bs : List UInt8) (p : Int) : (gd bs p).length = 32 := by
  unfold gd; split
  · rename_i h; obtain ⟨h0, h1⟩ := room_zero h; rw [List.length_take, List.length_drop]; omega
  · exact dz_length
theorem GetR.out {k : IntKind} {bs : List UInt8} {p : Int} {n : Nat} {w : World} {e : Ending} {w' : World} (h : GetR k bs p n w e w') :
    e = .returned (.tuple #[.int k (gv bs p n : Int), .int .i64 (gn bs p n), .int .i64 (room bs.length p n)]) ∧ w = w' := by
  obtain ⟨h1, h2⟩ := h
  refine ⟨h2.trans ?_, h1⟩
  unfold gv gn; split
  · rename_i c; rw [c]
  · rfl
theorem GetD.out {bs : List UInt8} {p : Int} {w : World} {e : Ending} {w' : World} (h : GetD bs p w e w') :
    e = .returned (.tuple #[dg (gd bs p), .int .i64 (gn bs p 32), .int .i64 (room bs.length p 32)]) ∧ Below w.heap.size w w' := by
  obtain ⟨h1, h2⟩ := h
  refine ⟨h2.trans ?_, h1⟩
  unfold gd gn; split
  · rename_i c; rw [c]; rfl
  · rfl

end Go.Proofs.YtnecgoahdkfbeaaDoor.Oct
