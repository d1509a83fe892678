/- The walk of the law OctetBack: for all bytes, every number and digest it returns true, and changes nothing that was there. -/
import Derived.Test.YtmiffljcggfcgaaOctD
namespace Go.Proofs.Ytmiffljcggfcgaa.Oct
open Go Go.RowKit Go.Proofs.Ytmiffljcggfcgaa.Cop
set_option linter.unusedVariables false
set_option linter.unusedSimpArgs false

theorem loadD (ρ : Operand → Value) (x : Operand) (dst : Option Tmp) (ty : TypeId) (pos : String) (after : Array Edge) (guard : Option (Nat × Bool)) (w : World)
    (h : isRowV w (ρ x) 32 = true) : (execOp ρ { dst, op := .load 55 x, type := ty, pos, after, guard }).run Try.prog w = .ok (.value (.agg (rowV w (ρ x)).toArray)) w := run_load_rowV aggD sizeD ρ x dst ty pos after guard w h
attribute [local go_sem ↓] loadD


theorem be_succ (m n : Nat) : be m (n + 1) = UInt8.ofNat (m / 2 ^ (8 * n)) :: be m n := by
  simp only [be, List.range_succ_eq_map, List.map_cons, List.map_map]
  congr 1
  apply List.map_congr_left
  intro j hj
  simp only [Function.comp, Nat.succ_eq_add_one]
  congr 4
  omega
theorem num_cons_aux (l : List UInt8) : ∀ a : Nat, l.foldl (fun v b => v * 256 + b.toNat) a = a * 256 ^ l.length + num l := by
  induction l with
  | nil => intro a; simp [num]
  | cons b l ih =>
    intro a
    have h0 := ih (0 * 256 + b.toNat)
    have e : num (b :: l) = l.foldl (fun v b => v * 256 + b.toNat) (0 * 256 + b.toNat) := rfl
    rw [List.foldl_cons, ih, e, h0, List.length_cons, Nat.pow_succ]
    rw [Nat.add_mul, Nat.zero_mul, Nat.zero_add, Nat.mul_assoc, Nat.mul_comm 256 (256 ^ l.length)]
    omega
theorem num_be (n : Nat) : ∀ m, m < 256 ^ n → num (be m n) = m := by
  have key : ∀ n m, num (be m n) = m % 256 ^ n := by
    intro n
    induction n with
    | zero => intro m; simp [be, num, Nat.mod_one]
    | succ n ih =>
      intro m
      rw [be_succ]
      have e : num (UInt8.ofNat (m / 2 ^ (8 * n)) :: be m n) = (be m n).foldl (fun v b => v * 256 + b.toNat) (0 * 256 + (UInt8.ofNat (m / 2 ^ (8 * n))).toNat) := rfl
      rw [e, num_cons_aux, be_length, ih, UInt8.toNat_ofNat']
      have e2 : (2 : Nat) ^ (8 * n) = 256 ^ n := by rw [Nat.pow_mul]
      have k2 : m % (256 ^ n * 256) = m % 256 ^ n + 256 ^ n * (m / 256 ^ n % 256) := Nat.mod_mul
      rw [Nat.mul_comm (256 ^ n) (m / 256 ^ n % 256)] at k2
      have e3 : (256 : Nat) ^ (n + 1) = 256 ^ n * 256 := by rw [Nat.pow_succ]
      rw [e2, e3, k2, Nat.zero_mul, Nat.zero_add]
      show m / 256 ^ n % 256 * 256 ^ n + m % 256 ^ n = _
      omega
  intro m hm
  rw [key, Nat.mod_eq_of_lt hm]

/-- What stands behind others is read. -/
theorem room_mid (A M B : List UInt8) : room (A ++ M ++ B).length (A.length : Int) M.length = 0 := by
  unfold room
  simp only [List.length_append]
  rw [if_neg (by omega), if_neg (by omega), if_neg (by omega)]
theorem cut_mid (A M B : List UInt8) : ((A ++ M ++ B).drop (A.length : Int).toNat).take M.length = M := by
  rw [Int.toNat_natCast, List.append_assoc, List.drop_left, List.take_left]
theorem gv_mid (A B : List UInt8) (m n : Nat) (hm : m < 256 ^ n) : gv (A ++ be m n ++ B) (A.length : Int) n = m := by
  have h1 := room_mid A (be m n) B
  have h2 := cut_mid A (be m n) B
  rw [be_length] at h1 h2
  unfold gv
  rw [if_pos h1, h2, num_be n m hm]

theorem gn_mid (A M B : List UInt8) : gn (A ++ M ++ B) (A.length : Int) M.length = (A.length : Int) + M.length := by
  unfold gn; rw [if_pos (room_mid A M B)]
theorem gd_mid (A D B : List UInt8) (hd : D.length = 32) : gd (A ++ D ++ B) (A.length : Int) = D := by
  have h1 := room_mid A D B
  have h2 := cut_mid A D B
  rw [hd] at h1 h2
  unfold gd; rw [if_pos h1, h2]

/-- What one reading behind the other finds. -/
theorem reads_all (bs d : List UInt8) (x16 x32 x : Nat) (h16 : x16 < 65536) (h32 : x32 < 4294967296) (hx : x < 18446744073709551616) (hd : d.length = 32) (all : List UInt8) (hall : all = bs ++ be x16 2 ++ be x32 4 ++ be x 8 ++ d) :
    (gv all bs.length 2 = x16 ∧ gn all bs.length 2 = (bs.length : Int) + 2 ∧ room all.length bs.length 2 = 0) ∧
    (gv all ((bs.length : Int) + 2) 4 = x32 ∧ gn all ((bs.length : Int) + 2) 4 = (bs.length : Int) + 6 ∧ room all.length ((bs.length : Int) + 2) 4 = 0) ∧
    (gv all ((bs.length : Int) + 6) 8 = x ∧ gn all ((bs.length : Int) + 6) 8 = (bs.length : Int) + 14 ∧ room all.length ((bs.length : Int) + 6) 8 = 0) ∧
    (gd all ((bs.length : Int) + 14) = d ∧ gn all ((bs.length : Int) + 14) 32 = (bs.length : Int) + 46 ∧ room all.length ((bs.length : Int) + 14) 32 = 0) ∧ all.length = bs.length + 46 := by
  have e1 : all = bs ++ be x16 2 ++ (be x32 4 ++ be x 8 ++ d) := by rw [hall]; simp
  have e2 : all = (bs ++ be x16 2) ++ be x32 4 ++ (be x 8 ++ d) := by rw [hall]; simp
  have e3 : all = (bs ++ be x16 2 ++ be x32 4) ++ be x 8 ++ d := by rw [hall]
  have e4 : all = (bs ++ be x16 2 ++ be x32 4 ++ be x 8) ++ d ++ [] := by rw [hall]; simp
  have l2 : ((bs ++ be x16 2).length : Int) = (bs.length : Int) + 2 := by simp [be_length]
  have l3 : ((bs ++ be x16 2 ++ be x32 4).length : Int) = (bs.length : Int) + 6 := by simp [be_length]
  have l4 : ((bs ++ be x16 2 ++ be x32 4 ++ be x 8).length : Int) = (bs.length : Int) + 14 := by simp [be_length]
  refine ⟨⟨?_, ?_, ?_⟩, ⟨?_, ?_, ?_⟩, ⟨?_, ?_, ?_⟩, ⟨?_, ?_, ?_⟩, ?_⟩
  · rw [e1]; exact gv_mid _ _ _ 2 h16
  · rw [e1]; have := gn_mid bs (be x16 2) (be x32 4 ++ be x 8 ++ d); rw [be_length] at this; exact this
  · rw [e1]; have := room_mid bs (be x16 2) (be x32 4 ++ be x 8 ++ d); rw [be_length] at this; exact this
  · rw [e2, ← l2]; exact gv_mid _ _ _ 4 h32
  · rw [e2, ← l2]; have := gn_mid (bs ++ be x16 2) (be x32 4) (be x 8 ++ d); rw [be_length] at this; rw [this, l2]; omega
  · rw [e2, ← l2]; have := room_mid (bs ++ be x16 2) (be x32 4) (be x 8 ++ d); rw [be_length] at this; exact this
  · rw [e3, ← l3]; exact gv_mid _ _ _ 8 hx
  · rw [e3, ← l3]; have := gn_mid (bs ++ be x16 2 ++ be x32 4) (be x 8) d; rw [be_length] at this; rw [this, l3]; omega
  · rw [e3, ← l3]; have := room_mid (bs ++ be x16 2 ++ be x32 4) (be x 8) d; rw [be_length] at this; exact this
  · rw [e4, ← l4]; exact gd_mid _ _ _ hd
  · rw [e4, ← l4]; have := gn_mid (bs ++ be x16 2 ++ be x32 4 ++ be x 8) d []; rw [hd] at this; rw [this, l4]; omega
  · rw [e4, ← l4]; have := room_mid (bs ++ be x16 2 ++ be x32 4 ++ be x 8) d []; rw [hd] at this; exact this
  · rw [hall]; simp [be_length, hd]

theorem ret_own {n : Nat} {l : List UInt8} {w : World} {e : Ending} {w' : World} (h : RetRow 5 1 n (bcs l) w e w') (hn : n = l.length) : ∃ v, e = .returned v ∧ Own w.heap.size w' v l ∧ Below w.heap.size w w' := by
  obtain ⟨v, h1, h2, h3⟩ := h
  subst hn
  exact ⟨v, h1, h2, h3⟩

set_option maxRecDepth 100000 in
set_option maxHeartbeats 2000000 in
theorem back_law (v : Value) (bs : List UInt8) (x : Nat) (d : List UInt8) (w : World) (h : Bs w v bs) (h47 : bs.length ≤ 140737488351232) (hx : x < 18446744073709551616) (hd : d.length = 32) :
    Calls Try.prog 9 #[v, .int .u64 (x : Int), dg d] w fun e w' => e = .returned (.bool true) ∧ Below w.heap.size w w' := by
  have HX := Lib.hid hx
  clear hx
  obtain ⟨x16, hw16, h16⟩ : ∃ m : Nat, IntKind.u16.wrap (x : Int) = (m : Int) ∧ m < 65536 := ⟨x % 65536, by rw [IntKind.wrap_u16]; omega, by omega⟩
  obtain ⟨x32, hw32, h32⟩ : ∃ m : Nat, IntKind.u32.wrap (x : Int) = (m : Int) ∧ m < 4294967296 := ⟨x % 4294967296, by rw [IntKind.wrap_u32]; omega, by omega⟩
  have HD := Lib.hid hd
  clear hd
  go_enter Try.func9, Try.ntmps9
  go_wp2_with ((with_reducible refine gate_dst (N := 5) rfl ?_); go_loud (refine wp_box rfl _ _ rfl (v := dg d) rfl ?_); intro w1 hk1 hb1 hz1)
  have h1 := h.below hb1
  have hq1 := rowV_blk (w := w1.drew) hk1
  have hi1 := isRowV_blk (w := w1.drew) hk1 (n := 32) (by have := HD.out; simpa [Value.cells, bcs] using this)
  go_region_law (first | (go_simp; go_at_call 26; go_loud (refine (put16 v bs x16 _ (by exact h1) h16).mono ?_); intro e w2 hq; obtain ⟨v1, rfl, ho2, hb2⟩ := ret_own hq (by simp [be_length]); clear hq; have hk2 := Blk.below (w := w1.drew) hk1 hb2; have hq2 := rowV_blk hk2; have hi2 := isRowV_blk hk2 (n := 32) (by have := HD.out; simpa [Value.cells, bcs] using this)) | (go_simp; go_at_call 28; go_loud (refine (put32 v1 _ x32 _ (ho2.rd.bs (by simp [be_length]; omega)) h32).mono ?_); intro e w3 hq; obtain ⟨v2, rfl, ho3, hb3⟩ := ret_own hq (by simp [be_length]); clear hq; have hk3 := Blk.below hk2 hb3; have hq3 := rowV_blk hk3; have hi3 := isRowV_blk hk3 (n := 32) (by have := HD.out; simpa [Value.cells, bcs] using this)) | (go_simp; go_at_call 29; go_loud (refine (put64 v2 _ x _ (ho3.rd.bs (by simp [be_length]; omega)) HX.out).mono ?_); intro e w4 hq; obtain ⟨v3, rfl, ho4, hb4⟩ := ret_own hq (by simp [be_length]); clear hq; have hk4 := Blk.below hk3 hb4; have hq4 := rowV_blk hk4; have hi4 := isRowV_blk hk4 (n := 32) (by have := HD.out; simpa [Value.cells, bcs] using this)) | (go_simp; go_at_call 30; go_loud (refine (putD v3 _ d _ (ho4.rd.bs (by simp [be_length]; omega)) HD.out).mono ?_); intro e w5 hq; obtain ⟨v4, rfl, ho5, hb5⟩ := ret_own hq (by have := HD.out; simp [be_length, this]); clear hq))
  all_goals
    have hB15 : Below w1.heap.size w1 w5 := by
      have q2 : Below w1.heap.size w1 w2 := (Below.refl _ w1).drew.trans hb2
      have q3 := q2.trans (hb3.mono q2.size)
      have q4 := q3.trans (hb4.mono q3.size)
      exact q4.trans (hb5.mono q4.size)
    have hW : Below w.heap.size w w5 := hb1.trans (hB15.mono hb1.size)
    have hk5 : Blk w5 w.heap.size 55 (dg d).cells.toList := hk1.below hB15
    have h5 : Bs w5 v bs := h.below hW
    obtain ⟨all, hall⟩ : ∃ all, all = bs ++ be x16 2 ++ be x32 4 ++ be x 8 ++ d := ⟨_, rfl⟩
    obtain ⟨r1, r2, r3, r4, r5⟩ := reads_all bs d x16 x32 x h16 h32 HX.out HD.out all hall
    rw [← hall] at ho5
    have h4 : Bs w5 v4 all := ho5.rd.bs (by omega)
    have R1 := Lib.hid r1
    have R2 := Lib.hid r2
    have R3 := Lib.hid r3
    have R4 := Lib.hid r4
    have R5 := Lib.hid r5
    clear r1 r2 r3 r4 r5 hall ho5 ho4 ho3 ho2 hb5 hb4 hb3 hb2 hb1 hk1 hq1 hi1 h1
    go_wp2_with ((with_reducible refine gate_dst (N := 34) rfl ?_); go_loud (refine wp_lenB rfl _ rfl h5.1 rfl ?_))
    refine (g16_calls v4 _ _ w5 h4 (by omega)).mono ?_
    intro e w' hq
    obtain ⟨he, rfl⟩ := hq.out
    rw [R1.out.1, R1.out.2.1, R1.out.2.2] at he
    subst he
    clear hq
    go_wp2_with fail
    refine (g32_calls v4 _ _ w5 h4 (by omega)).mono ?_
    intro e w' hq
    obtain ⟨he, rfl⟩ := hq.out
    rw [R2.out.1, R2.out.2.1, R2.out.2.2] at he
    subst he
    clear hq
    go_wp2_with fail
    refine (g64_calls v4 _ _ w5 h4 (by omega)).mono ?_
    intro e w' hq
    obtain ⟨he, rfl⟩ := hq.out
    rw [R3.out.1, R3.out.2.1, R3.out.2.2] at he
    subst he
    clear hq
    go_wp2_with fail
    refine (gdig_calls v4 _ _ w5 h4 (by omega)).mono ?_
    intro e w6 hq
    obtain ⟨he, hb6⟩ := hq.out
    rw [R4.out.1, R4.out.2.1, R4.out.2.2] at he
    subst he
    clear hq
    have hk56 := hk5.below hb6
    have h56 : Bs w6 v bs := h5.below hb6
    have h46 : Bs w6 v4 all := h4.below hb6
    have hds : (dg d).cells.toList.length = 32 := by have := HD.out; simpa [Value.cells, bcs] using this
    have HDS := Lib.hid hds
    have e46 : ((all.length : Int) == (bs.length : Int) + 46) = true := by rw [beq_iff_eq]; have := R5.out; omega
    have e46b : ((bs.length : Int) + 46 == (all.length : Int)) = true := by rw [beq_iff_eq]; have := R5.out; omega
    clear hds
    go_wp2_with (first | (((with_reducible refine gate_dst (N := 17) rfl ?_); go_loud (refine wp_alloc rfl _ rfl zeroD ?_); intro w7 hk7 hb7 hz7); have hk67 := hk56.below hb7) | (((with_reducible refine gate_store (t := 55) (p := 17) rfl ?_); go_loud (refine wp_store_blk rfl 55 _ _ rfl rfl sizeD rfl hk7 (dz_cells) (v := dg d) rfl (dg_size HD.out) (dg_one _) ?_); intro w8 hk8 hg8); have hk58 := hk67.grown hg8 (by have := hk56.lt; intro e; injection e; omega); have hB68 : Below w6.heap.size w6 w8 := hb7.trans (below_grown hg8 (Nat.le_of_lt hz7) (fun k hk => by cases hk; exact Nat.le_refl _)); have h58 := h56.below hB68; have h48 := h46.below hB68) | ((with_reducible refine gate_dst (N := 92) rfl ?_); go_loud (refine wp_load_blk rfl 55 _ rfl aggD sizeD rfl hk8 (HDS.out) ?_)) | ((with_reducible refine gate_dst (N := 93) rfl ?_); go_loud (refine wp_load_blk rfl 55 _ rfl aggD sizeD rfl hk58 (HDS.out) ?_)) | ((with_reducible refine gate_dst (N := 94) rfl ?_); go_loud (refine wp_eq_dg rfl 55 _ 5 32 _ _ rfl Try.underlying55 Try.underlying5 size8 (by kernel_rfl) rfl rfl (HD.out) (HD.out) (beq_self_eq_true _) ?_)) | ((with_reducible refine gate_dst (N := 99) rfl ?_); go_loud (refine wp_lenB rfl _ rfl h48.1 rfl ?_)) | ((with_reducible refine gate_dst (N := 105) rfl ?_); go_loud (refine wp_lenB rfl _ rfl h58.1 rfl ?_)))
    go_ret
    refine ⟨rfl, hW.trans ((hb6.trans (hB68.mono hb6.size)).mono hW.size)⟩
end Go.Proofs.Ytmiffljcggfcgaa.Oct
