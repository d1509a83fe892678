/- The walk of the law OctetReads: for all bytes and every place it returns true, and changes nothing that was there. -/
import Derived.Test.YtmiffljcggfcgaaOctD
namespace Go.Proofs.Ytmiffljcggfcgaa.Oct
open Go Go.RowKit Go.Proofs.Ytmiffljcggfcgaa.Cop
set_option linter.unusedVariables false

def gv (bs : List UInt8) (p : Int) (n : Nat) : Nat := if room bs.length p n = 0 then num ((bs.drop p.toNat).take n) else 0
def gn (bs : List UInt8) (p : Int) (n : Nat) : Int := if room bs.length p n = 0 then p + n else 0
def gd (bs : List UInt8) (p : Int) : List UInt8 := if room bs.length p 32 = 0 then (bs.drop p.toNat).take 32 else dz
theorem gv_lt (bs : List UInt8) (p : Int) (n : Nat) : gv bs p n < 256 ^ n := by
  unfold gv; split
  · exact num_take_lt _ n n (Nat.le_refl _)
  · exact Nat.pow_pos (by decide)
theorem gd_length (bs : List UInt8) (p : Int) : (gd bs p).length = 32 := by
  unfold gd; split
  · rename_i h; obtain ⟨h0, h1⟩ := room_zero h; rw [List.length_take, List.length_drop]; omega
  · exact dz_length
theorem GetR.out {k : IntKind} {bs : List UInt8} {p : Int} {n : Nat} {w : World} {e : Ending} {w' : World} (h : GetR k bs p n w e w') :
    e = .returned (.tuple #[.int k (gv bs p n : Int), .int .i64 (gn bs p n), .int .i64 (room bs.length p n)]) ∧ w = w' := by
  obtain ⟨h1, h2⟩ := h
  refine ⟨h2.trans ?_, h1⟩
  unfold gv gn; split
  · rename_i c; rw [c]
  · rfl
theorem GetD.out {bs : List UInt8} {p : Int} {w : World} {e : Ending} {w' : World} (h : GetD bs p w e w') :
    e = .returned (.tuple #[dg (gd bs p), .int .i64 (gn bs p 32), .int .i64 (room bs.length p 32)]) ∧ Below w.heap.size w w' := by
  obtain ⟨h1, h2⟩ := h
  refine ⟨h2.trans ?_, h1⟩
  unfold gd gn; split
  · rename_i c; rw [c]; rfl
  · rfl

theorem names_calls (w : World) : Calls Try.prog 37 #[] w fun e w' => e = .returned (.bool true) ∧ w = w' := by
  go_enter Try.func37, Try.ntmps37
  go_wp2
  go_ret
  exact ⟨rfl, rfl⟩


theorem rread2 (v : Value) (bs : List UInt8) (p : Int) (w : World) (h : Bs w v bs) (hp : -9223372036854775808 ≤ p) : Calls Try.prog 32 #[v, .int .i64 p, .int .i64 2] w (GetR .u64 bs p 2 w) := rread_calls v bs p 2 w h hp (by omega)
theorem rread4 (v : Value) (bs : List UInt8) (p : Int) (w : World) (h : Bs w v bs) (hp : -9223372036854775808 ≤ p) : Calls Try.prog 32 #[v, .int .i64 p, .int .i64 4] w (GetR .u64 bs p 4 w) := rread_calls v bs p 4 w h hp (by omega)
theorem rread8 (v : Value) (bs : List UInt8) (p : Int) (w : World) (h : Bs w v bs) (hp : -9223372036854775808 ≤ p) : Calls Try.prog 32 #[v, .int .i64 p, .int .i64 8] w (GetR .u64 bs p 8 w) := rread_calls v bs p 8 w h hp (by omega)

set_option maxRecDepth 100000 in
set_option maxHeartbeats 2000000 in
theorem reads_law (v : Value) (bs : List UInt8) (p : Int) (w : World) (h : Bs w v bs) (h47 : bs.length ≤ 140737488351232) (hp : -9223372036854775808 ≤ p) :
    Calls Try.prog 8 #[v, .int .i64 p] w fun e w' => e = .returned (.bool true) ∧ Below w.heap.size w w' := by
  have hb := h.2
  have hv2 : (gv bs p 2 : Int) < 65536 := Int.ofNat_lt.2 (gv_lt bs p 2)
  have hv4 : (gv bs p 4 : Int) < 4294967296 := Int.ofNat_lt.2 (gv_lt bs p 4)
  have HD := Lib.hid (gd_length bs p)
  go_enter Try.func8, Try.ntmps8
  go_wp2_with (first | (((with_reducible refine gate_dst (N := 20) rfl ?_); go_loud (refine wp_appB rfl (.tmp 18) (.tmp 19) rfl (Own.lit0 w (Nat.le_refl _)) rfl (Rd.alloc h.1 _) rfl (by simp; omega) (by simp) ?_); intro v1 w1 hown1 hgrow1)) | (((with_reducible refine gate_dst (N := 22) rfl ?_); go_loud (refine wp_appB rfl (.tmp 20) (.tmp 21) rfl (hown1.alloc _) rfl (Rd.one _ 0x5a _) rfl (by simp; omega) (by have := hgrow1.size; simp at this ⊢; omega) ?_); intro v2 w2 hown2 hgrow2); have hB1 : Below w.heap.size w w1 := ((Below.refl _ _).alloc (Nat.le_refl _) _).trans ((Own.lit0 w (Nat.le_refl _)).frame hgrow1 (by simp)); have hB2 : Below w.heap.size w w2 := (hB1.alloc hB1.size _).trans ((hown1.alloc _).frame hgrow2 (by have := hB1.size; simp; omega)); have h2 : Bs w2 v bs := h.below hB2; have hin : Rd w2 v2 (bs ++ [0x5a]) := hown2.rd) | ((with_reducible refine gate_dst (N := 25) rfl ?_); go_loud (refine wp_lenB rfl _ rfl h2.1 rfl ?_)) | (((with_reducible refine gate_dst (N := 26) rfl ?_); go_loud (refine wp_cutB rfl _ _ _ rfl hin rfl (0) (bs.length) (.inl ⟨rfl, rfl⟩) (.inr ⟨_, rfl⟩) (by first | omega | (simp; done) | (simp; omega)) (by first | omega | (simp; done) | (simp; omega)) ?_); intro vo hro); have hos : Bs w2 vo bs := Rd.bs (by simpa using hro) hb))
  clear hown1 hgrow1 hown2 hgrow2 hB1 hro
  refine (g16_calls vo bs p w2 hos hp).mono ?_
  intro e w' hq
  obtain ⟨rfl, rfl⟩ := hq.out
  clear hq
  go_wp2_with fail
  refine (rread2 v bs p w2 h2 hp).mono ?_
  intro e w' hq
  obtain ⟨rfl, rfl⟩ := hq.out
  clear hq
  go_wp2_with fail
  refine (g32_calls vo bs p w2 hos hp).mono ?_
  intro e w' hq
  obtain ⟨rfl, rfl⟩ := hq.out
  clear hq
  go_wp2_with fail
  refine (rread4 v bs p w2 h2 hp).mono ?_
  intro e w' hq
  obtain ⟨rfl, rfl⟩ := hq.out
  clear hq
  go_wp2_with fail
  refine (g64_calls vo bs p w2 hos hp).mono ?_
  intro e w' hq
  obtain ⟨rfl, rfl⟩ := hq.out
  clear hq
  go_wp2_with fail
  refine (rread8 v bs p w2 h2 hp).mono ?_
  intro e w' hq
  obtain ⟨rfl, rfl⟩ := hq.out
  clear hq
  go_wp2_with fail
  refine (gdig_calls vo bs p w2 hos hp).mono ?_
  intro e w3 hq
  obtain ⟨rfl, hB3⟩ := hq.out
  clear hq
  have hds : (dg (gd bs p)).cells.toList.length = 32 := by have := HD.out; simpa [Value.cells, bcs] using this
  have HDS := Lib.hid hds
  clear hds
  go_wp2_with (first | ((with_reducible refine gate_dst (N := 16) rfl ?_); go_loud (refine wp_alloc rfl _ rfl zeroD ?_); intro w4 hk4 hb4 hz4) | ((with_reducible refine gate_store (t := 55) (p := 16) rfl ?_); go_loud (refine wp_store_blk rfl 55 _ _ rfl rfl sizeD rfl hk4 (dz_cells) (v := dg (gd bs p)) rfl (dg_size HD.out) (dg_one _) ?_); intro w5 hk5 hg5))
  have hB5 : Below w2.heap.size w2 w5 := (hB3.trans (hb4.mono hB3.size)).trans (below_grown hg5 (by have := hB3.size; omega) (fun k hk => by cases hk; exact hB3.size))
  have h5 := h2.below hB5
  refine (rdig_calls v bs p w5 h5 hp).mono ?_
  intro e w6 hq
  obtain ⟨rfl, hB6⟩ := hq.out
  clear hq
  have hk6 := hk5.below hB6
  have hB26 : Below w2.heap.size w2 w6 := hB5.trans (hB6.mono hB5.size)
  clear hB5 h5 hk5 hg5 hb4 hz4 hk4
  go_wp2_with (first | (((with_reducible refine gate_dst (N := 17) rfl ?_); go_loud (refine wp_alloc rfl _ rfl zeroA ?_); intro w7 hk7 hb7 hz7); have hk67 := hk6.below hb7) | (((with_reducible refine gate_store (t := 54) (p := 17) rfl ?_); go_loud (refine wp_store_blk rfl 54 _ _ rfl rfl sizeA rfl hk7 (dz_cells) (v := dg (gd bs p)) rfl (dg_size HD.out) (dg_one _) ?_); intro w8 hk8 hg8); have hk68 := hk67.grown hg8 (by have := hk6.lt; intro e; injection e; omega); have hB28 : Below w2.heap.size w2 w8 := (hB26.trans (hb7.mono hB26.size)).trans (below_grown hg8 (by have := hB26.size; omega) (fun k hk => by cases hk; exact hB26.size)); have hin8 := hin.below hB28; have hv8 : Rd w8 v bs := (h2.below hB28).1) | ((with_reducible refine gate_dst (N := 132) rfl ?_); go_loud (refine wp_load_blk rfl 55 _ rfl aggD sizeD rfl hk68 (HDS.out) ?_)) | ((with_reducible refine gate_dst (N := 133) rfl ?_); go_loud (refine wp_load_blk rfl 54 _ rfl aggA sizeA rfl hk8 (HDS.out) ?_)) | ((with_reducible refine gate_dst (N := 134) rfl ?_); go_loud (refine wp_eq_dg rfl 55 _ 5 32 _ _ rfl Try.underlying55 Try.underlying5 size8 (by kernel_rfl) rfl rfl (HD.out) (HD.out) (beq_self_eq_true _) ?_)) | ((with_reducible refine gate_dst (N := 148) rfl ?_); go_loud (refine wp_strB rfl _ rfl hin8 rfl ?_)) | ((with_reducible refine gate_dst (N := 150) rfl ?_); go_loud (refine wp_strB rfl _ rfl hv8 rfl ?_)) | ((with_reducible refine gate_dst (N := 151) rfl ?_); go_loud (refine wp_add_str rfl _ _ _ _ rfl (p := bs) (q := [0x5a]) rfl rfl (rfl) (rfl) (by simp; omega) ?_)) | ((with_reducible refine gate_dst (N := 152) rfl ?_); go_loud (refine wp_eq_str rfl _ _ _ _ rfl rfl rfl (decide_eq_true rfl) ?_)) | (go_at_call 37; refine (names_calls _).mono ?_; rintro e w' ⟨rfl, rfl⟩))
  go_ret
  exact ⟨rfl, hB2.trans (hB28.mono hB2.size)⟩
end Go.Proofs.Ytmiffljcggfcgaa.Oct
